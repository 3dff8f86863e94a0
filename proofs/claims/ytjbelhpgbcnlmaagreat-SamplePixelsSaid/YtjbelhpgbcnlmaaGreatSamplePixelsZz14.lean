/- Several texts in one: Several texts in one: affine: maps by which straight lines stay straight, and beside each other: their numbers. affine: a line's numbers with a place's. A map of layer 18 by nine numbers is the same map: plain. affine: Check, New, At. What the laws of chapter 19 have in common. -/
import Derived.Test.YtjbelhpgbcnlmaaGreatSamplePixelsZz12
import Derived.StillTailTactics
import Derived.Test.YtjbelhpgbcnlmaaGreatSamplePixelsZz13
import Derived.Test.YtjbelhpgbcnlmaaGreatSamplePixelsZz2
section
section
set_option linter.unusedVariables false
namespace Go.Proofs.YtjbelhpgbcnlmaaGreat
open Go.RowKit
set_option maxHeartbeats 400000 in
theorem ain_any (a b:Int) (w:World) (hb0:0≤b) (hb:b≤9223372036854775807):Calls Tryz.prog 226 #[.int .i64 a,.int .i64 b] w fun e w'=>e=.returned (.bool (inH a b))∧w=w':=by
 have hw:wrap64 (-b)=-b:=IntWalk.wrap64_in _ ⟨by omega,by omega⟩
 by_cases h1:-b≤a
 all_goals
  go_enter Tryz.func226,Tryz.ntmps226
  go_wp2
  go_ret
  exact ⟨ret_bool (by rw [inH_eq];simp <;> omega),rfl⟩
set_option maxRecDepth 100000 in
theorem most6_ix (k:Nat) (hk:k<6) (w:World):(Instr.index 354 (.agg #[.int .i64 16777216,.int .i64 16777216,.int .i64 2147483648,.int .i64 16777216,.int .i64 16777216,.int .i64 2147483648]) (.int .i64 k)).run Tryz.prog w=.ok (.int .i64 (most k)) w:=by
 have h9:k=0∨k=1∨k=2∨k=3∨k=4∨k=5:=by omega
 rcases h9 with rfl|rfl|rfl|rfl|rfl|rfl <;> rfl
def rg6 (l:List Int):Bool:=(List.range 6).all (fun i=>inH (l.getD i 0) (most i))
theorem rg6_iff {l:List Int}:rg6 l=true ↔ ∀ i,i<6→inH (l.getD i 0) (most i)=true:=by
 unfold rg6;rw [List.all_eq_true];exact ⟨fun h i hi=>h i (List.mem_range.2 hi),fun h i hi=>h i (List.mem_range.1 hi)⟩
def dtA (l:List Int):Int:=cf l 0*cf l 4-cf l 1*cf l 3
def afC (l:List Int):Int:=if l.length≠6 then 12 else if rg6 l=true then (if dtA l=0 then 40 else 0) else 11
structure AfOk (l:List Int):Prop where
 len:l.length=6
 rg:rg6 l=true
theorem AfOk.bd {l:List Int} (h:AfOk l) (i:Nat) (hi:i<6):-most i≤cf l i∧cf l i≤most i:=inH_iff.1 (rg6_iff.1 h.rg i hi)
theorem AfOk.prod {l:List Int} (h:AfOk l) (i j:Nat) (hi:i<6) (hj:j<6) (k:Int) (hk:most i*most j≤k):-k≤cf l i*cf l j∧cf l i*cf l j≤k:=by
 have h1:=h.bd i hi
 have h2:=h.bd j hj
 have:=mulbd h1.1 h1.2 h2.1 h2.2
 omega
theorem afC_zero {l:List Int}:afC l=0 ↔ AfOk l∧dtA l≠0:=by
 simp only [afC]
 constructor
 ·intro h
  by_cases h1:l.length=6
  ·by_cases h2:rg6 l=true
   ·by_cases h3:dtA l=0
    ·simp [h1,h2,h3] at h
    ·exact ⟨⟨h1,h2⟩,h3⟩
   ·simp [h1,h2] at h
  ·simp [h1] at h
 ·rintro ⟨h,h3⟩
  simp [h.len,h.rg,h3]
theorem aget {l:List Int} {w:World} {B:Nat} {A:Option Addr} (hl:l.length=6) (hr:Rd w B A (l.map (Value.int .i64))):∃ b o,A=some ⟨b,o,none⟩∧b<B∧∀ i,i<6→w.cell? ⟨b,o+i,none⟩=some (.int .i64 (cf l i)):=by
 obtain ⟨b,o,rfl,hb,_⟩:=hr.get 0 (by simp [hl])
 refine ⟨b,o,rfl,hb,fun i hi=>?_⟩
 obtain ⟨b',o',e,_,hc⟩:=hr.get i (by simp [hl];omega)
 injection e with e
 injection e with e1 e2
 subst e1 e2
 rw [hc]
 simp [cf,List.getD_eq_getElem?_getD,List.getElem?_eq_getElem (show i<l.length by omega)]
set_option maxRecDepth 100000 in
set_option maxHeartbeats 4000000 in
theorem adet_any (l:List Int) (A:Option Addr) (cp:Nat) (w:World) {B:Nat} (h:AfOk l) (hr:Rd w B A (l.map (Value.int .i64))) :
 Calls Tryz.prog 225 #[.slice A 6 cp] w fun e w'=>e=.returned (.int .i64 (dtA l))∧Below w.heap.size w w':=by
 obtain ⟨b,o,rfl,hb,hc⟩:=aget h.len hr
 have c0:w.cell? ⟨b,o,none⟩=some (.int .i64 (cf l 0)):=hc 0 (by decide)
 have c1:=hc 1 (by decide)
 have c3:=hc 3 (by decide)
 have c4:=hc 4 (by decide)
 have p1:=h.prod 0 4 (by decide) (by decide) 281474976710656 (by decide)
 have p2:=h.prod 1 3 (by decide) (by decide) 281474976710656 (by decide)
 have HE:=Lib.hid (show dtA l=cf l 0*cf l 4-cf l 1*cf l 3 from rfl)
 have hb0:=Below.refl w.heap.size w
 clear hc hr h
 obtain ⟨p10,p11⟩:=p1
 obtain ⟨p20,p21⟩:=p2
 generalize dtA l=D at *
 generalize cf l 0=x0 at *
 generalize cf l 1=x1 at *
 generalize cf l 3=x3 at *
 generalize cf l 4=x4 at *
 have e1:IntKind.i64.wrap (x0*x4)=x0*x4:=IntWalk.i64_in _ ⟨by omega,by omega⟩
 have e2:IntKind.i64.wrap (x1*x3)=x1*x3:=IntWalk.i64_in _ ⟨by omega,by omega⟩
 have e3:IntKind.i64.wrap (x0*x4-x1*x3)=x0*x4-x1*x3:=IntWalk.i64_in _ ⟨by omega,by omega⟩
 clear p10 p11 p20 p21
 go_enter Tryz.func225,Tryz.ntmps225
 go_wp2_with fail
 go_quiet (fail)
 go_wp2_with fail
 go_ret
 exact ⟨ret_int HE.out.symm,below_drewN hb0 _⟩
end Go.Proofs.YtjbelhpgbcnlmaaGreat
end
section
set_option linter.unusedVariables false
namespace Go.Proofs.YtjbelhpgbcnlmaaGreat
open Go.RowKit
set_option maxRecDepth 100000 in
set_option maxHeartbeats 8000000 in
theorem asum_any (x y z px py d:Int) (w:World) (h:LnOk x y z) (hp:rightH px py d=true) :
 Calls Tryz.prog 228 #[.agg (a3 x y z),.int .i64 px,.int .i64 py,.int .i64 d] w fun e w'=>e=.returned (WV (smR x y z px py d))∧Below w.heap.size w w':=by
 obtain ⟨b0,b1,b2,b3,b4,b5,j1,j2,j3⟩:=sum_bd h hp
 obtain ⟨x0,x1,y0,y1,z0,z1⟩:=h
 have hM1:=fun w'=>wmul_any x px w' ⟨by omega,by omega⟩ j1
 have hM2:=fun w'=>wmul_any y py w' ⟨by omega,by omega⟩ j2
 have hM3:=fun w'=>wmul_any z d w' ⟨by omega,by omega⟩ j3
 have hA1:=fun w'=>wadd_any (x*px) (y*py) w' (by unfold Wd;omega) (by unfold Wd;omega) (by unfold Wd;omega)
 have hA2:=fun w'=>wadd_any (x*px+y*py) (z*d) w' (by unfold Wd;omega) (by unfold Wd;omega) (by unfold Wd;omega)
 have HS:=Lib.hid (show smR x y z px py d=x*px+y*py+z*d from rfl)
 rw [← HS.out] at hA2
 clear b0 b1 b2 b3 b4 b5 j1 j2 j3 x0 x1 y0 y1 z0 z1 hp HS
 generalize smR x y z px py d=s at *
 generalize x*px+y*py=xy at *
 generalize x*px=xp at *
 generalize y*py=yp at *
 generalize z*d=zd at *
 have hL:=((Lie.start w).alloc (a3 x y z) 284).alloc #[.int .i64 0,.int .u64 0] 289
 simp only [World.size_alloc] at hL
 go_enter Tryz.func228,Tryz.ntmps228
 go_wp2_with fail
 refine (hM1 _).mono ?_
 rintro e w1 ⟨rfl,hb1⟩
 have hw1z:w.heap.size+1<w1.heap.size:=by have:=hb1.size;simp at this;omega
 replace hL:=(hL.nx hb1).alloc (wdA xp) 289
 clear hb1
 go_upto_region 2 with fail
 generalize w1.alloc (.cells (wdA xp) 289)=w2 at *
 have k4:Bk w2 w.heap.size 284 (a3 x y z):=hL.k 2 (by simp)
 have k9:Bk w2 w1.heap.size 289 (wdA xp):=hL.k 0 (by simp)
 have q1:=fun (d:Nat) (os:Array Obj)=>cell_regrown (k4.cell3).2.1 d os
 refine wp_region_quiet_late 7 8 (by kernel_rfl) (by kernel_rfl) ?_
 simp only [List.take_succ_cons,List.take_zero]
 repeat (first | (refine wpQuiet_load rfl _ _ rfl k9 rfl Tryz.underlying289 rfl wd_size ?_;simp only [Act.put,List.setIfInBounds_toArray,List.set_cons_zero,List.set_cons_succ])|go_big_quiet_step ((first | with_reducible exact quiet_below (hM2 _)|with_reducible exact quiet_below (hA1 _)))|quiet_step ((first | with_reducible exact quiet_below (hM2 _)|with_reducible exact quiet_below (hA1 _))))
 refine wpQuiet_nil ?_
 intro _ hw'
 obtain ⟨⟨d9,os⟩,hw''⟩:=hw'
 subst hw''
 have hbx:=below_regrown w2 d9 os
 generalize Go.Sort.grow (redrawn w2 d9) os=wx at *
 have hLx:=hL.nx hbx
 have k9x:Bk wx w1.heap.size 289 (wdA xp):=hLx.k 0 (by simp)
 show wpAny _ _ _ _ 3 _ _ _
 refine wpAny_ext (i:=7) _ _ _ _ _ rfl rfl rfl rfl rfl rfl (by kernel_rfl) (by kernel_rfl) (by kernel_rfl) (fun _ _ _ h=>h) ?_
 refine wpAny_ext (i:=8) _ _ _ _ _ rfl rfl rfl rfl rfl rfl (by kernel_rfl) (by kernel_rfl) (by kernel_rfl) (fun _ _ _ h=>h) ?_
 refine wpAny_tail 9 rfl (by kernel_rfl) ?_
 simp only [Act.put,List.setIfInBounds_toArray,List.set_cons_zero,List.set_cons_succ,List.drop_succ_cons,List.drop_zero,List.getElem_toArray,List.getElem_cons_succ,List.getElem_cons_zero]
 go_wp2_with (refine stWd rfl _ _ rfl k9x rfl rfl rfl ?_;intro w4 k9y hg4 hs4)
 have hL4:=hLx.set hg4 k9y (by omega) (by intro q hq;simp at hq;rcases hq with rfl|rfl <;> simp <;> omega)
 have k44:Bk w4 w.heap.size 284 (a3 x y z):=hL4.k 2 (by simp)
 simp only [Act.put]
 have q2:=fun (d:Nat) (os:Array Obj)=>cell_regrown (k44.cell3).2.2 d os
 refine wp_region_quiet_late 7 8 (by kernel_rfl) (by kernel_rfl) ?_
 simp only [List.take_succ_cons,List.take_zero]
 repeat (first | (refine wpQuiet_load rfl _ _ rfl k9y rfl Tryz.underlying289 rfl wd_size ?_;simp only [Act.put,List.setIfInBounds_toArray,List.set_cons_zero,List.set_cons_succ])|go_big_quiet_step ((first | with_reducible exact quiet_below (hM3 _)|with_reducible exact quiet_below (hA2 _)))|quiet_step ((first | with_reducible exact quiet_below (hM3 _)|with_reducible exact quiet_below (hA2 _))))
 refine wpQuiet_nil ?_
 intro _ hw'
 obtain ⟨⟨d9,os⟩,hw''⟩:=hw'
 subst hw''
 have hbx:=below_regrown w4 d9 os
 generalize Go.Sort.grow (redrawn w4 d9) os=wy at *
 have hLy:=hL4.nx hbx
 have k9yx:Bk wy w1.heap.size 289 (wdA xy):=hLy.k 0 (by simp)
 show wpAny _ _ _ _ 3 _ _ _
 refine wpAny_ext (i:=7) _ _ _ _ _ rfl rfl rfl rfl rfl rfl (by kernel_rfl) (by kernel_rfl) (by kernel_rfl) (fun _ _ _ h=>h) ?_
 refine wpAny_ext (i:=8) _ _ _ _ _ rfl rfl rfl rfl rfl rfl (by kernel_rfl) (by kernel_rfl) (by kernel_rfl) (fun _ _ _ h=>h) ?_
 refine wpAny_tail 9 rfl (by kernel_rfl) ?_
 simp only [Act.put,List.setIfInBounds_toArray,List.set_cons_zero,List.set_cons_succ,List.drop_succ_cons,List.drop_zero,List.getElem_toArray,List.getElem_cons_succ,List.getElem_cons_zero]
 have k8:Bk wy (w.heap.size+1) 289 #[.int .i64 0,.int .u64 0]:=hLy.k 1 (by simp)
 go_upto_region 4 with (refine stWd rfl _ _ rfl k9yx rfl rfl rfl ?_;intro w6 k9z hg6 hs6)
 have hL6:=hLy.set hg6 k9z (by omega) (by intro q hq;simp at hq;rcases hq with rfl|rfl <;> simp <;> omega)
 have k86:Bk w6 (w.heap.size+1) 289 #[.int .i64 0,.int .u64 0]:=hL6.k 1 (by simp)
 obtain ⟨e0,e1⟩:=k9z.cell2
 go_wp2_with (refine stWd rfl _ _ rfl k86 rfl rfl rfl ?_;intro w8 k88 hg8 hs8)
 refine bodyPost_ret (res_wd rfl k88 rfl) rfl ?_
 exact ⟨rfl,below_of_gb hL6.bel hg8 (by omega) hL6.sz⟩
end Go.Proofs.YtjbelhpgbcnlmaaGreat
end
section
set_option linter.unusedVariables false
namespace Go.Proofs.YtjbelhpgbcnlmaaGreat
open Go.RowKit
def nine (l:List Int):List Int:=l++[0,0,65536]
theorem nine_lo {l:List Int} (hl:l.length=6) (i:Nat) (hi:i<6):(nine l).getD i 0=l.getD i 0:=by
 unfold nine
 simp [List.getD_eq_getElem?_getD,List.getElem?_append_left (show i<l.length by omega)]
theorem nine_6 {l:List Int} (hl:l.length=6):(nine l).getD 6 0=0:=by
 unfold nine;simp [List.getD_eq_getElem?_getD,hl]
theorem nine_7 {l:List Int} (hl:l.length=6):(nine l).getD 7 0=0:=by
 unfold nine;simp [List.getD_eq_getElem?_getD,hl]
theorem nine_8 {l:List Int} (hl:l.length=6):(nine l).getD 8 0=65536:=by
 unfold nine;simp [List.getD_eq_getElem?_getD,hl]
theorem nine_len {l:List Int} (hl:l.length=6):(nine l).length=9:=by simp [nine,hl]
theorem nine_rg {l:List Int} (hl:l.length=6):rgB (nine l)=rg6 l:=by
 rw [Bool.eq_iff_iff,rgB_iff,rg6_iff]
 constructor
 ·intro h i hi
  have:=h i (by omega)
  rwa [nine_lo hl i hi] at this
 ·intro h i hi
  by_cases h6:i<6
  ·rw [nine_lo hl i h6];exact h i h6
  ·have h3:i=6∨i=7∨i=8:=by omega
   rcases h3 with rfl|rfl|rfl
   ·rw [nine_6 hl];rfl
   ·rw [nine_7 hl];rfl
   ·rw [nine_8 hl];rfl
def afU (l:List Int):Nat→Int
 | 0=>65536*cf l 4
 | 1=>-65536*cf l 1
 | 2=>cf l 1*cf l 5-cf l 4*cf l 2
 | 3=>-65536*cf l 3
 | 4=>65536*cf l 0
 | 5=>cf l 3*cf l 2-cf l 0*cf l 5
 | _=>dtA l
theorem nine_ad {l:List Int} (hl:l.length=6):adK (cf (nine l)) 9 0=afU l 0∧adK (cf (nine l)) 9 1=afU l 1∧adK (cf (nine l)) 9 2=afU l 2∧adK (cf (nine l)) 9 3=afU l 3∧adK (cf (nine l)) 9 4=afU l 4∧adK (cf (nine l)) 9 5=afU l 5 ∧
 adK (cf (nine l)) 9 6=0∧adK (cf (nine l)) 9 7=0∧adK (cf (nine l)) 9 8=dtA l:=by
 have e0:cf (nine l) 0=cf l 0:=nine_lo hl 0 (by decide)
 have e1:cf (nine l) 1=cf l 1:=nine_lo hl 1 (by decide)
 have e2:cf (nine l) 2=cf l 2:=nine_lo hl 2 (by decide)
 have e3:cf (nine l) 3=cf l 3:=nine_lo hl 3 (by decide)
 have e4:cf (nine l) 4=cf l 4:=nine_lo hl 4 (by decide)
 have e5:cf (nine l) 5=cf l 5:=nine_lo hl 5 (by decide)
 have e6:cf (nine l) 6=0:=nine_6 hl
 have e7:cf (nine l) 7=0:=nine_7 hl
 have e8:cf (nine l) 8=65536:=nine_8 hl
 simp only [ad_0,ad_1,ad_2,ad_3,ad_4,ad_5,ad_6,ad_7,ad_8,e0,e1,e2,e3,e4,e5,e6,e7,e8,afU,dtA]
 have c1:=Int.mul_comm (cf l 2) (cf l 4)
 have c2:=Int.mul_comm (cf l 2) (cf l 3)
 refine ⟨?_,?_,?_,?_,?_,?_,?_,?_,?_⟩ <;> first | trivial|omega
theorem nine_det {l:List Int} (hl:l.length=6):detS (cf (nine l)) 3=65536*dtA l:=by
 have e0:cf (nine l) 0=cf l 0:=nine_lo hl 0 (by decide)
 have e1:cf (nine l) 1=cf l 1:=nine_lo hl 1 (by decide)
 have e2:cf (nine l) 2=cf l 2:=nine_lo hl 2 (by decide)
 have e3:cf (nine l) 3=cf l 3:=nine_lo hl 3 (by decide)
 have e4:cf (nine l) 4=cf l 4:=nine_lo hl 4 (by decide)
 have e5:cf (nine l) 5=cf l 5:=nine_lo hl 5 (by decide)
 have e6:cf (nine l) 6=0:=nine_6 hl
 have e7:cf (nine l) 7=0:=nine_7 hl
 have e8:cf (nine l) 8=65536:=nine_8 hl
 have h:detS (cf (nine l)) 3=0+cof (cf (nine l)) 0 0*cf (nine l) 0+cof (cf (nine l)) 0 1*cf (nine l) 1+cof (cf (nine l)) 0 2*cf (nine l) 2:=rfl
 have h0:cof (cf (nine l)) 0 0=cf (nine l) 4*cf (nine l) 8-cf (nine l) 5*cf (nine l) 7:=rfl
 have h1:cof (cf (nine l)) 0 1=cf (nine l) 5*cf (nine l) 6-cf (nine l) 3*cf (nine l) 8:=rfl
 have h2:cof (cf (nine l)) 0 2=cf (nine l) 3*cf (nine l) 7-cf (nine l) 4*cf (nine l) 6:=rfl
 rw [h,h0,h1,h2,e0,e1,e2,e3,e4,e5,e6,e7,e8]
 unfold dtA
 simp only [Int.mul_zero,Int.zero_mul,Int.sub_zero,Int.zero_sub,Int.add_zero,Int.zero_add,Int.neg_mul]
 have r1:cf l 4*65536*cf l 0=65536*(cf l 0*cf l 4):=by rw [Int.mul_comm (cf l 4),Int.mul_assoc,Int.mul_comm (cf l 4)]
 have r2:cf l 3*65536*cf l 1=65536*(cf l 1*cf l 3):=by rw [Int.mul_comm (cf l 3),Int.mul_assoc,Int.mul_comm (cf l 3)]
 omega
theorem nine_und {l:List Int} (hl:l.length=6) (x y d:Int):undR (adK (cf (nine l)) 9) x y d=if rightH x y d=true then dtA l*d else 0:=by
 obtain ⟨_,_,_,_,_,_,h6,h7,h8⟩:=nine_ad hl
 unfold undR
 rw [h6,h7,h8]
 split <;> omega
theorem nine_sg {l:List Int} (hl:l.length=6) {W H:Int} (hW:1≤W∧W≤32768) (hH:1≤H∧H≤32768):sgH (adK (cf (nine l)) 9) W H=decide (dtA l≠0):=by
 have r1:rightH (-1) (-1) 2=true:=by decide
 have r2:rightH (2*W-1) (-1) 2=true:=by rw [rightH_iff];omega
 have r3:rightH (-1) (2*H-1) 2=true:=by rw [rightH_iff];omega
 have r4:rightH (2*W-1) (2*H-1) 2=true:=by rw [rightH_iff];omega
 unfold sgH
 rw [nine_und hl,nine_und hl,nine_und hl,nine_und hl,if_pos r1,if_pos r2,if_pos r3,if_pos r4,Bool.eq_iff_iff]
 unfold mn4 mx4
 simp only [Bool.or_eq_true,decide_eq_true_eq]
 omega
theorem nine_new {l:List Int} (hl:l.length=6) (W H:Int):newC (nine l) W H=if rg6 l=false then 11 else if szH W H=false then 30 else if dtA l=0 then 40 else 0:=by
 have hd:=nine_det hl
 unfold newC rngC
 rw [nine_rg hl,if_neg (show ¬(nine l).length≠9 by rw [nine_len hl];simp)]
 cases h1:rg6 l
 ·simp
 ·cases h2:szH W H
  ·simp
  ·have hz:=szH_iff.1 h2
   rw [nine_sg hl hz.1 hz.2,hd]
   by_cases h3:dtA l=0
   ·simp [h3]
   ·have:¬65536*dtA l=0:=by omega
    simp [h3,this]
theorem afC_six {l:List Int} (hl:l.length=6):afC l=if rg6 l=false then 11 else if dtA l=0 then 40 else 0:=by
 unfold afC
 rw [if_neg (show ¬l.length≠6 by rw [hl];simp)]
 cases h1:rg6 l <;> simp
def afE (x y d:Int):Int:=if rightH x y d=true then 0 else 11
def afX (l:List Int) (x y d:Int):Int:=if rightH x y d=true then plc (smR (afU l 0) (afU l 1) (afU l 2) x y d) (dtA l*d) else 0
def afY (l:List Int) (x y d:Int):Int:=if rightH x y d=true then plc (smR (afU l 3) (afU l 4) (afU l 5) x y d) (dtA l*d) else 0
theorem nine_at {l:List Int} (hl:l.length=6) (h0:dtA l≠0) (x y d:Int):atX (adK (cf (nine l)) 9) x y d=afX l x y d∧atY (adK (cf (nine l)) 9) x y d=afY l x y d∧atE (adK (cf (nine l)) 9) x y d=afE x y d:=by
 obtain ⟨a0,a1,a2,a3,a4,a5,_,_,_⟩:=nine_ad hl
 unfold atX atY atE afX afY afE
 rw [nine_und hl,a0,a1,a2,a3,a4,a5]
 by_cases hp:rightH x y d=true
 ·have hd:¬dtA l*d=0:=by
   have:=(rightH_iff.1 hp).2.2
   rw [Int.mul_eq_zero];omega
  simp [hp,hd]
 ·simp [hp]
theorem afU_ok {l:List Int} (h:AfOk l):LnOk (afU l 0) (afU l 1) (afU l 2)∧LnOk (afU l 3) (afU l 4) (afU l 5)∧-562949953421312≤dtA l∧dtA l≤562949953421312:=by
 have b0:=h.bd 0 (by decide)
 have b1:=h.bd 1 (by decide)
 have b3:=h.bd 3 (by decide)
 have b4:=h.bd 4 (by decide)
 have m0:most 0=16777216:=rfl
 have m1:most 1=16777216:=rfl
 have m3:most 3=16777216:=rfl
 have m4:most 4=16777216:=rfl
 have p1:=h.prod 1 5 (by decide) (by decide) 36028797018963968 (by decide)
 have p2:=h.prod 4 2 (by decide) (by decide) 36028797018963968 (by decide)
 have p3:=h.prod 3 2 (by decide) (by decide) 36028797018963968 (by decide)
 have p4:=h.prod 0 5 (by decide) (by decide) 36028797018963968 (by decide)
 have p5:=h.prod 0 4 (by decide) (by decide) 281474976710656 (by decide)
 have p6:=h.prod 1 3 (by decide) (by decide) 281474976710656 (by decide)
 refine ⟨⟨?_,?_,?_,?_,?_,?_⟩,⟨?_,?_,?_,?_,?_,?_⟩,?_,?_⟩ <;> simp only [afU,dtA] <;> omega
end Go.Proofs.YtjbelhpgbcnlmaaGreat
end
section
set_option linter.unusedVariables false
namespace Go.Proofs.YtjbelhpgbcnlmaaGreat
open Go.RowKit
set_option maxHeartbeats 2000000 in
theorem acheck_any (l:List Int) (A:Option Addr) (n cp:Nat) (w:World) {B:Nat} (hl:l.length=n) (hr:Rd w B A (l.map (Value.int .i64))) :
 Calls Tryz.prog 224 #[.slice A n cp] w fun e w'=>e=.returned (.int .i64 (afC l))∧Below w.heap.size w w':=by
 have hb0:=Below.refl w.heap.size w
 by_cases hn:n=6
 ·subst hn
  have HL:=Lib.hid hl
  have hD:=fun (h:AfOk l)=>adet_any l A cp w h hr
  clear hl
  go_enter Tryz.func224,Tryz.ntmps224
  go_wp2_with fail
  go_loop [3,4,9] (fun _ _ kv=>∃ k:Nat,k≤6∧kv=.int .i64 k∧Hid (∀ i,i<k→inH (l.getD i 0) (most i)=true)) (fun _ _ kv=>6-(intOf kv).toNat)
  case atStart=>exact ⟨0,by omega,rfl,by intro i hi;omega⟩
  case round =>
   obtain ⟨k,hk,rfl,hall⟩:=hrel
   by_cases hlt:k<6
   ·obtain ⟨b,o,rfl,hb,hc⟩:=hr.get k (by rw [List.length_map,HL.out];exact hlt)
    have hx:(l.map (Value.int .i64))[k]'(by rw [List.length_map,HL.out];exact hlt)=.int .i64 (l.getD k 0):=by
     rw [List.getElem_map,List.getD_eq_getElem?_getD,List.getElem?_eq_getElem (by rw [HL.out];exact hlt)];rfl
    rw [hx] at hc
    clear hx hD
    have hix:=most6_ix k hlt
    obtain ⟨m0,m1⟩:=most_bd k
    cases hi:inH (l.getD k 0) (most k)
    ·have HR:Hid (afC l=11):=by
      show _=_
      unfold afC
      rw [if_neg (by rw [HL.out];simp),if_neg]
      intro h
      have:=rg6_iff.1 h k hlt
      rw [hi] at this;cases this
     generalize l.getD k 0=x at *
     generalize most k=mk at *
     go_wp2_with (go_at_call 226;(with_reducible refine (ain_any _ _ _ m0 (by omega)).mono ?_);rintro e w' ⟨rfl,rfl⟩;rw [hi])
     go_ret
     exact ⟨ret_int HR.out.symm,hb0⟩
    ·have HN:Hid (∀ i,i<k+1→inH (l.getD i 0) (most i)=true):=by
      intro i hi2
      by_cases e:i=k
      ·rw [e];exact hi
      ·exact hall.out i (by omega)
     generalize l.getD k 0=x at *
     generalize most k=mk at *
     go_wp2_with (go_at_call 226;(with_reducible refine (ain_any _ _ _ m0 (by omega)).mono ?_);rintro e w' ⟨rfl,rfl⟩;rw [hi])
     exact ⟨⟨k+1,by omega,by go_num,HN⟩,by simp [intOf];omega⟩
   ·obtain rfl:k=6:=by omega
    have hok:AfOk l:=⟨HL.out,rg6_iff.2 hall.out⟩
    have hd:=hD hok
    have HR:Hid (afC l=if dtA l=0 then 40 else 0):=by
     show _=_
     unfold afC
     rw [if_neg (by rw [HL.out];simp),if_pos hok.rg]
    clear hD hok hall
    by_cases hz:dtA l=0
    ·rw [hz] at hd
     have HR':Hid (afC l=40):=by show _=_;rw [HR.out,if_pos hz]
     clear hz HR
     go_wp2_with (go_at_call 225;(with_reducible refine hd.mono ?_);rintro e w' ⟨rfl,hb1⟩)
     go_ret
     exact ⟨ret_int HR'.out.symm,hb1⟩
    ·have HR':Hid (afC l=0):=by show _=_;rw [HR.out,if_neg hz]
     have hzb:(dtA l==0)=false:=by simpa using hz
     clear hz HR
     generalize dtA l=D at *
     go_wp2_with (go_at_call 225;(with_reducible refine hd.mono ?_);rintro e w' ⟨rfl,hb1⟩)
     go_ret
     exact ⟨ret_int HR'.out.symm,hb1⟩
 ·have HR:Hid (afC l=12):=by show _=_;unfold afC;rw [if_pos (by omega)]
  have hnb:((n:Int) != 6)=true:=by rw [bne_iff_ne];omega
  clear hl hn
  go_enter Tryz.func224,Tryz.ntmps224
  go_wp2_with fail
  all_goals first
   | (go_ret;exact ⟨ret_int HR.out.symm,hb0⟩)
   | (exfalso;omega)
theorem st_three {P:Program} {ops:Array Oper} {rest:List Oper} {o:Oper} {a:Act} {w:World} {Q:Exit→Act→World→Prop} (hgd:o.guard=none) (ty:TypeId) (x y:Operand) (ho:o.op=.store ty x y)
 {g:Nat} {t:TypeId} {old:Array Value} (hK:Bk w g t old) (i:Nat) (hi2:i+3≤old.size) (u v z:Value) (hx:a.eval x=.pointer (some ⟨g,i,none⟩)) (hy:a.eval y=.agg #[u,v,z])
 (hi:(P.info? ty).map (·.size)=some 3) (h1:u.oneCell'=true) (h2:v.oneCell'=true) (h3:z.oneCell'=true)
 (h:∀ w',Bk w' g t (((old.setIfInBounds i u).setIfInBounds (i+1) v).setIfInBounds (i+1+1) z)→w.grownBy w' (some g)→w'.heap.size=w.heap.size→wpList P ops Q rest (a.put o.dst undef) w'):wpList P ops Q (o::rest) a w:=by
 refine wpList_store_mid hgd ty x y ho g i #[u,v,z] hx hy (fun j hj=>⟨?_,hK.frozen _⟩) hi (by simp [h1,h2,h3]) ?_
 ·rw [hK.cell]
  have hj2:j<3:=hj
  rw [Array.getElem?_eq_getElem (show i+j<old.size by omega)]
  simp
 ·exact h _ (((hK.set i u).set (i+1) v).set (i+1+1) z) (gb_setCell (g:=g) (p:=⟨g,i+1+1,none⟩) (gb_setCell (g:=g) (p:=⟨g,i+1,none⟩) (gb_setCell (g:=g) (p:=⟨g,i,none⟩) (World.grownBy.refl w _) (.inl rfl) u) (.inl rfl) v) (.inl rfl) z) (by simp [World.setCells,World.setCell])
def afA (l:List Int):Array Value:=#[.int .i64 (afU l 0),.int .i64 (afU l 1),.int .i64 (afU l 2),.int .i64 (afU l 3),.int .i64 (afU l 4),.int .i64 (afU l 5),.int .i64 (dtA l)]
def AfR (l:List Int) (w w':World) (p:Option Addr):Prop :=
 (afC l≠0→p=none)∧(afC l=0→∃ g,p=some ⟨g,0,none⟩∧w.heap.size≤g∧Bk w' g 286 (afA l))
set_option maxRecDepth 100000 in
set_option maxHeartbeats 8000000 in
theorem anew_any (l:List Int) (A:Option Addr) (n cp:Nat) (w:World) {B:Nat} (hl:l.length=n) (hr:Rd w B A (l.map (Value.int .i64))) (hB:B≤w.heap.size) :
 Calls Tryz.prog 163 #[.slice A n cp] w fun e w'=>∃ p,e=.returned (.tuple #[.pointer p,.int .i64 (afC l)])∧AfR l w w' p∧Below w.heap.size w w':=by
 have hC:=acheck_any l A n cp w hl hr
 by_cases h1:afC l=0
 ·obtain ⟨hok,hd⟩:=afC_zero.1 h1
  obtain rfl:n=6:=by rw [← hl];exact hok.len
  rw [h1] at hC
  simp only [AfR,h1]
  have hD:=fun (w':World) (hb:Below w.heap.size w w')=>adet_any l A cp w' hok (hr.below' hb hB)
  obtain ⟨b,o,rfl,hb,hcl⟩:=aget hok.len hr
  have b0:=hok.bd 0 (by decide)
  have b1:=hok.bd 1 (by decide)
  have b3:=hok.bd 3 (by decide)
  have b4:=hok.bd 4 (by decide)
  have m0:most 0=16777216:=rfl
  have m1:most 1=16777216:=rfl
  have m3:most 3=16777216:=rfl
  have m4:most 4=16777216:=rfl
  rw [m0] at b0
  rw [m1] at b1
  rw [m3] at b3
  rw [m4] at b4
  obtain ⟨p1,p1'⟩:=hok.prod 1 5 (by decide) (by decide) 36028797018963968 (by decide)
  obtain ⟨p2,p2'⟩:=hok.prod 4 2 (by decide) (by decide) 36028797018963968 (by decide)
  obtain ⟨p3,p3'⟩:=hok.prod 3 2 (by decide) (by decide) 36028797018963968 (by decide)
  obtain ⟨p4,p4'⟩:=hok.prod 0 5 (by decide) (by decide) 36028797018963968 (by decide)
  have E:Hid (afA l=#[.int .i64 (65536*cf l 4),.int .i64 (-65536*cf l 1),.int .i64 (cf l 1*cf l 5-cf l 4*cf l 2),.int .i64 (-65536*cf l 3),.int .i64 (65536*cf l 0),.int .i64 (cf l 3*cf l 2-cf l 0*cf l 5),.int .i64 (dtA l)]):=rfl
  have c0:w.cell? ⟨b,o,none⟩=some (.int .i64 (cf l 0)):=hcl 0 (by decide)
  have c1:=hcl 1 (by decide)
  have c2:=hcl 2 (by decide)
  have c3:=hcl 3 (by decide)
  have c4:=hcl 4 (by decide)
  have c5:=hcl 5 (by decide)
  clear h1 hok hd hcl m0 m1 m3 m4 hl hr
  generalize afA l=AA at *
  generalize dtA l=D at *
  generalize cf l 0=x0 at *
  generalize cf l 1=x1 at *
  generalize cf l 2=x2 at *
  generalize cf l 3=x3 at *
  generalize cf l 4=x4 at *
  generalize cf l 5=x5 at *
  have w1:IntKind.i64.wrap (x1*x5)=x1*x5:=IntWalk.i64_in _ ⟨by omega,by omega⟩
  have w2:IntKind.i64.wrap (x4*x2)=x4*x2:=IntWalk.i64_in _ ⟨by omega,by omega⟩
  have w3:IntKind.i64.wrap (x3*x2)=x3*x2:=IntWalk.i64_in _ ⟨by omega,by omega⟩
  have w4:IntKind.i64.wrap (x0*x5)=x0*x5:=IntWalk.i64_in _ ⟨by omega,by omega⟩
  have w5:IntKind.i64.wrap (x1*x5-x4*x2)=x1*x5-x4*x2:=IntWalk.i64_in _ ⟨by omega,by omega⟩
  have w6:IntKind.i64.wrap (x3*x2-x0*x5)=x3*x2-x0*x5:=IntWalk.i64_in _ ⟨by omega,by omega⟩
  have w7:IntKind.i64.wrap (65536*x4)=65536*x4:=IntWalk.i64_in _ ⟨by omega,by omega⟩
  have w8:IntKind.i64.wrap (-65536*x1)=-65536*x1:=IntWalk.i64_in _ ⟨by omega,by omega⟩
  have w9:IntKind.i64.wrap (-65536*x3)=-65536*x3:=IntWalk.i64_in _ ⟨by omega,by omega⟩
  have w10:IntKind.i64.wrap (65536*x0)=65536*x0:=IntWalk.i64_in _ ⟨by omega,by omega⟩
  clear b0 b1 b3 b4 p1 p1' p2 p2' p3 p3' p4 p4'
  go_enter Tryz.func163,Tryz.ntmps163
  go_wp2_with (first
   | (go_at_call 224;(with_reducible refine hC.mono ?_);rintro e wa ⟨rfl,hb1⟩)
   | (go_at_call 225;(with_reducible refine (hD _ (by exact hb1)).mono ?_);rintro e wb ⟨rfl,hb2⟩;have hb3:=hb1.trans (hb2.mono hb1.size)))
  have hK:=Bk.new wb 286 #[.int .i64 0,.int .i64 0,.int .i64 0,.int .i64 0,.int .i64 0,.int .i64 0,.int .i64 D]
  have hb4:=hb3.alloc hb3.size (.cells #[.int .i64 0,.int .i64 0,.int .i64 0,.int .i64 0,.int .i64 0,.int .i64 0,.int .i64 D] 286)
  have hcc:=fun (i:Nat)=>hb4.cell (p:=⟨b,i,none⟩) (Nat.lt_of_lt_of_le hb hB)
  have hg0:=hb3.size
  generalize wb.alloc (.cells #[.int .i64 0,.int .i64 0,.int .i64 0,.int .i64 0,.int .i64 0,.int .i64 0,.int .i64 D] 286)=wc at *
  replace c0:=(hcc _).trans c0
  replace c1:=(hcc _).trans c1
  replace c2:=(hcc _).trans c2
  replace c3:=(hcc _).trans c3
  replace c4:=(hcc _).trans c4
  replace c5:=(hcc _).trans c5
  clear hcc
  go_still_tail 25,(by kernel_rfl)
  change wpList _ _ _ _ _ wc.drew
  have hKd:Bk wc.drew wb.heap.size 286 _:=hK.drew
  have hb5:Below w.heap.size w wc.drew:=below_drewN hb4 1
  have hcc:=fun (i:Nat)=>(show wc.drew.cell? ⟨b,i,none⟩=wc.cell? ⟨b,i,none⟩ from rfl)
  have hsz:w.heap.size≤wc.drew.heap.size:=hb5.size
  generalize wc.drew=wd at *
  replace c0:=(hcc _).trans c0
  replace c1:=(hcc _).trans c1
  replace c2:=(hcc _).trans c2
  replace c3:=(hcc _).trans c3
  replace c4:=(hcc _).trans c4
  replace c5:=(hcc _).trans c5
  clear hcc hb4 hK hb3 hb2 hb1 hC hD
  have hwb:=hg0
  go_upto_region 6 with (refine st_three rfl _ _ _ rfl hKd 0 (by simp) (.int .i64 (65536*x4)) (.int .i64 (-65536*x1)) (.int .i64 (x1*x5-x4*x2)) rfl rfl a3_info rfl rfl rfl ?_;intro we hKe hge hse)
  have hb6:=below_of_gb hb5 hge hg0 hsz
  have hcc:=fun (i:Nat)=>World.cell?_of_block (a:=⟨b,i,none⟩) (hge.block b (by have:=hKd.lt;omega) (by intro e;injection e with e;omega))
  simp only [List.setIfInBounds_toArray,List.set_cons_zero,List.set_cons_succ,Nat.zero_add] at hKe
  replace c0:=(hcc _).trans c0
  replace c1:=(hcc _).trans c1
  replace c2:=(hcc _).trans c2
  replace c3:=(hcc _).trans c3
  replace c4:=(hcc _).trans c4
  replace c5:=(hcc _).trans c5
  clear hcc hKd hge hse hb5 hsz
  go_still_tail 25,(by kernel_rfl)
  change wpList _ _ _ _ _ we.drew
  replace hKe:Bk we.drew wb.heap.size 286 _:=hKe.drew
  have hb7:Below w.heap.size w we.drew:=below_drewN hb6 1
  have hsz:w.heap.size≤we.drew.heap.size:=hb7.size
  clear c0 c1 c2 c3 c4 c5 hb6
  generalize we.drew=wf at *
  go_wp2_with (refine st_three rfl _ _ _ rfl hKe 3 (by simp) (.int .i64 (-65536*x3)) (.int .i64 (65536*x0)) (.int .i64 (x3*x2-x0*x5)) rfl rfl a3_info rfl rfl rfl ?_;intro wg hKg hgg hsg)
  go_returns
  simp only [List.setIfInBounds_toArray,List.set_cons_zero,List.set_cons_succ] at hKg
  exact ⟨_,rfl,⟨fun h=>absurd rfl h,fun _=>⟨_,rfl,hg0,by rw [E.out];exact hKg⟩⟩,below_of_gb hb7 hgg hg0 hsz⟩
 ·have hne:=Lib.hid h1
  have hnb:(afC l != 0)=true:=by simpa using h1
  simp only [AfR]
  clear h1
  generalize afC l=cc at *
  go_enter Tryz.func163,Tryz.ntmps163
  go_wp2_with (first
   | (go_at_call 224;(with_reducible refine hC.mono ?_);rintro e wa ⟨rfl,hb1⟩))
  go_returns
  exact ⟨none,rfl,⟨fun _=>rfl,fun h=>absurd h hne.out⟩,hb1⟩
set_option maxRecDepth 100000 in
set_option maxHeartbeats 8000000 in
theorem aat_any (l:List Int) (g:Nat) (x y d:Int) (w:World) (hK:Bk w g 286 (afA l)) (h:AfOk l) (hdt:dtA l≠0) :
 Calls Tryz.prog 164 #[.pointer (some ⟨g,0,none⟩),.int .i64 x,.int .i64 y,.int .i64 d] w fun e w' =>
  e=.returned (.tuple #[.int .i64 (afX l x y d),.int .i64 (afY l x y d),.int .i64 (afE x y d)])∧Below w.heap.size w w':=by
 have hb0:=Below.refl w.heap.size w
 have hI:=fun (a b:Int) (w':World) (h0:0≤b) (h1:b≤9223372036854775807)=>ain_any a b w' h0 h1
 have e0:rightH x y d=(inH x 1048576&&(inH y 1048576&&(decide (1≤d)&&decide (d≤16)))):=by
  unfold rightH inH
  rw [Bool.eq_iff_iff];simp only [decide_eq_true_iff,Bool.and_eq_true]
 have hIx:=fun w'=>ain_any x 1048576 w' (by decide) (by decide)
 have hIy:=fun w'=>ain_any y 1048576 w' (by decide) (by decide)
 cases hp:rightH x y d
 ·have E1:afX l x y d=0:=by simp [afX,hp]
  have E2:afY l x y d=0:=by simp [afY,hp]
  have E3:afE x y d=11:=by simp [afE,hp]
  rw [E1,E2,E3]
  rw [hp] at e0
  have E0:=Lib.hid e0
  clear E1 E2 E3 hp e0 hI
  cases h1:inH x 1048576
  ·rw [h1] at hIx
   clear h1 E0
   go_enter Tryz.func164,Tryz.ntmps164
   go_wp2_with (first | (go_at_call 226;(with_reducible refine (hIx _).mono ?_);rintro e w1 ⟨rfl,rfl⟩))
   go_returns
   exact ⟨rfl,hb0⟩
  ·rw [h1] at hIx
   cases h2:inH y 1048576
   ·rw [h2] at hIy
    clear h1 h2 E0
    go_enter Tryz.func164,Tryz.ntmps164
    go_wp2_with (first | (go_at_call 226;(with_reducible refine (hIx _).mono ?_);rintro e w1 ⟨rfl,rfl⟩)|(go_at_call 226;(with_reducible refine (hIy _).mono ?_);rintro e w1 ⟨rfl,rfl⟩))
    go_returns
    exact ⟨rfl,hb0⟩
   ·rw [h2] at hIy
    have h3:¬(1≤d∧d≤16):=by
     intro h3
     have:=E0.out
     rw [h1,h2] at this
     simp [h3] at this
    clear h1 h2 E0
    by_cases h4:1≤d
    all_goals
     go_enter Tryz.func164,Tryz.ntmps164
     go_wp2_with (first | (go_at_call 226;(with_reducible refine (hIx _).mono ?_);rintro e w1 ⟨rfl,rfl⟩)|(go_at_call 226;(with_reducible refine (hIy _).mono ?_);rintro e w1 ⟨rfl,rfl⟩))
     go_returns
     exact ⟨rfl,hb0⟩
 ·have hpr:=rightH_iff.1 hp
  have E1:afX l x y d=plc (smR (afU l 0) (afU l 1) (afU l 2) x y d) (dtA l*d):=by simp [afX,hp]
  have E2:afY l x y d=plc (smR (afU l 3) (afU l 4) (afU l 5) x y d) (dtA l*d):=by simp [afY,hp]
  have E3:afE x y d=0:=by simp [afE,hp]
  rw [E1,E2,E3]
  obtain ⟨hu,hv,t0,t1⟩:=afU_ok h
  have hS1:=fun w'=>asum_any (afU l 0) (afU l 1) (afU l 2) x y d w' hu hp
  have hS2:=fun w'=>asum_any (afU l 3) (afU l 4) (afU l 5) x y d w' hv hp
  have q1:=sm_wq hu hp
  have q2:=sm_wq hv hp
  obtain ⟨u0,u1⟩:=mulbd (a:=dtA l) (b:=d) (A:=562949953421312) (B:=16) t0 t1 (by omega) (by omega)
  have hdd:dtA l*d≠0:=by
   rw [Ne,Int.mul_eq_zero];omega
  have hP1:=fun w'=>qplace_any (smR (afU l 0) (afU l 1) (afU l 2) x y d) (dtA l*d) w' q1 hdd ⟨by omega,by omega⟩
  have hP2:=fun w'=>qplace_any (smR (afU l 3) (afU l 4) (afU l 5) x y d) (dtA l*d) w' q2 hdd ⟨by omega,by omega⟩
  have hix:inH x 1048576=true:=inH_iff.2 hpr.1
  have hiy:inH y 1048576=true:=inH_iff.2 hpr.2.1
  obtain ⟨_,_,d0,d1⟩:=hpr
  have hw:IntKind.i64.wrap (dtA l*d)=dtA l*d:=IntWalk.i64_in _ ⟨by omega,by omega⟩
  rw [hix] at hIx
  rw [hiy] at hIy
  clear E1 E2 E3 hp e0 hI hu hv t0 t1 u0 u1 hdd q1 q2 hix hiy hdt h
  obtain ⟨c0,c1,c2,c3,c4,c5,c6⟩:w.cell? ⟨g,0,none⟩=some (.int .i64 (afU l 0))∧w.cell? ⟨g,1,none⟩=some (.int .i64 (afU l 1))∧w.cell? ⟨g,2,none⟩=some (.int .i64 (afU l 2))∧w.cell? ⟨g,3,none⟩=some (.int .i64 (afU l 3))∧w.cell? ⟨g,4,none⟩=some (.int .i64 (afU l 4))∧w.cell? ⟨g,5,none⟩=some (.int .i64 (afU l 5))∧w.cell? ⟨g,6,none⟩=some (.int .i64 (dtA l)) :=
   ⟨by rw [hK.cell];rfl,by rw [hK.cell];rfl,by rw [hK.cell];rfl,by rw [hK.cell];rfl,by rw [hK.cell];rfl,by rw [hK.cell];rfl,by rw [hK.cell];rfl⟩
  generalize plc (smR (afU l 0) (afU l 1) (afU l 2) x y d) (dtA l*d)=p1 at *
  generalize plc (smR (afU l 3) (afU l 4) (afU l 5) x y d) (dtA l*d)=p2 at *
  generalize smR (afU l 0) (afU l 1) (afU l 2) x y d=s1 at *
  generalize smR (afU l 3) (afU l 4) (afU l 5) x y d=s2 at *
  obtain ⟨dd,hdd⟩:∃ dd,dd=dtA l*d:=⟨_,rfl⟩
  rw [← hdd] at hP1 hP2
  rw [← hdd] at hw
  rw [hdd] at hw
  have hw2:IntKind.i64.wrap (dtA l*d)=dd:=by rw [hw,hdd]
  clear hw hdd
  generalize dtA l=D at *
  go_enter Tryz.func164,Tryz.ntmps164
  go_wp2_with (first | (go_at_call 226;(with_reducible refine (hIx _).mono ?_);rintro e w1 ⟨rfl,rfl⟩)|(go_at_call 226;(with_reducible refine (hIy _).mono ?_);rintro e w1 ⟨rfl,rfl⟩))
  have k0:=fun (n:Nat) (os:Array Obj)=>cell_regrown c0 n os
  have k1:=fun (n:Nat) (os:Array Obj)=>cell_regrown c1 n os
  have k2:=fun (n:Nat) (os:Array Obj)=>cell_regrown c2 n os
  have k6:=fun (n:Nat) (os:Array Obj)=>cell_regrown c6 n os
  refine wp_region_quiet_below (by kernel_rfl) (by kernel_rfl) ?_
  repeat (first | go_big_quiet_step ((first | with_reducible exact quiet_below (hS1 _)|with_reducible exact quiet_below (hP1 _)))|quiet_step ((first | with_reducible exact quiet_below (hS1 _)|with_reducible exact quiet_below (hP1 _))))
  refine wpQuiet_nil ?_
  intro _ hw'
  obtain ⟨⟨d9,os⟩,hw''⟩:=hw'
  subst hw''
  have hbx:=below_regrown w d9 os
  generalize Go.Sort.grow (redrawn w d9) os=wx at *
  clear k0 k1 k2 k6
  have c3':=(hbx.cell (p:=⟨g,3,none⟩) hK.lt).trans c3
  have c4':=(hbx.cell (p:=⟨g,4,none⟩) hK.lt).trans c4
  have c5':=(hbx.cell (p:=⟨g,5,none⟩) hK.lt).trans c5
  have c6':=(hbx.cell (p:=⟨g,6,none⟩) hK.lt).trans c6
  clear c0 c1 c2 c3 c4 c5 c6
  have k3:=fun (n:Nat) (os:Array Obj)=>cell_regrown c3' n os
  have k4:=fun (n:Nat) (os:Array Obj)=>cell_regrown c4' n os
  have k5:=fun (n:Nat) (os:Array Obj)=>cell_regrown c5' n os
  have k6:=fun (n:Nat) (os:Array Obj)=>cell_regrown c6' n os
  go_upto_region 6 with fail
  refine wp_region_quiet_below (by kernel_rfl) (by kernel_rfl) ?_
  repeat (first | go_big_quiet_step ((first | with_reducible exact quiet_below (hS2 _)|with_reducible exact quiet_below (hP2 _)))|quiet_step ((first | with_reducible exact quiet_below (hS2 _)|with_reducible exact quiet_below (hP2 _))))
  refine wpQuiet_nil ?_
  intro _ hw'
  obtain ⟨⟨d8,os8⟩,hw''⟩:=hw'
  subst hw''
  have hby:=hbx.trans ((below_regrown wx d8 os8).mono hbx.size)
  generalize Go.Sort.grow (redrawn wx d8) os8=wy at *
  clear k3 k4 k5 k6 c3' c4' c5' c6'
  go_wp2_with fail
  go_returns
  exact ⟨rfl,hby⟩
end Go.Proofs.YtjbelhpgbcnlmaaGreat
end
section
set_option linter.unusedVariables false
namespace Go.Proofs.YtjbelhpgbcnlmaaGreat
open Go.RowKit
theorem Bk.rdl {w:World} {g:Nat} {t:TypeId} {l:List Value} (h:Bk w g t l.toArray):Rd w w.heap.size (some ⟨g,0,none⟩) l:=fun k hk=>by
 refine ⟨g,0,rfl,h.lt,?_⟩
 rw [Nat.zero_add,h.cell]
 simp [hk]
theorem rin_any (a b:Int) (w:World) (hb0:0≤b) (hb:b≤9223372036854775807) :
 Calls Tryz.prog 102 #[.int .i64 a,.int .i64 b] w fun e w'=>e=.returned (.bool (inH a b))∧w=w':=by
 rw [inH_eq]
 by_cases h1:-b≤a
 all_goals
  go_enter Tryz.func102,Tryz.ntmps102
  go_wp2
  go_ret
  exact ⟨ret_bool (by simp [h1] <;> omega),rfl⟩
theorem rright_h (x y d:Int) (w:World):Calls Tryz.prog 113 #[.int .i64 x,.int .i64 y,.int .i64 d] w fun e w'=>e=.returned (.bool (rightH x y d))∧w=w':=by
 have e0:rightH x y d=(inH x 1048576&&(inH y 1048576&&(decide (1≤d)&&decide (d≤16)))):=by
  unfold rightH inH
  rw [Bool.eq_iff_iff];simp only [decide_eq_true_iff,Bool.and_eq_true]
 have E0:=Lib.hid e0
 clear e0
 cases h1:inH x 1048576
 ·go_enter Tryz.func113,Tryz.ntmps113
  go_wp2_with (go_at_call 102;(with_reducible refine (rin_any _ _ _ (by decide) (by decide)).mono ?_);rintro e w' ⟨rfl,rfl⟩)
  go_ret
  exact ⟨ret_bool (by rw [E0.out,h1];rfl),rfl⟩
 ·cases h2:inH y 1048576
  ·go_enter Tryz.func113,Tryz.ntmps113
   go_wp2_with (go_at_call 102;(with_reducible refine (rin_any _ _ _ (by decide) (by decide)).mono ?_);rintro e w' ⟨rfl,rfl⟩)
   go_ret
   exact ⟨ret_bool (by rw [E0.out,h1,h2];rfl),rfl⟩
  ·by_cases h3:1≤d
   all_goals
    go_enter Tryz.func113,Tryz.ntmps113
    go_wp2_with (go_at_call 102;(with_reducible refine (rin_any _ _ _ (by decide) (by decide)).mono ?_);rintro e w' ⟨rfl,rfl⟩)
    go_ret
    exact ⟨ret_bool (by rw [E0.out,h1,h2];simp [h3] <;> omega),rfl⟩
end Go.Proofs.YtjbelhpgbcnlmaaGreat
end
end
