/- Several texts in one: Several texts in one: Matrices: numbers that may be, places, cofactors. Matrices: determinants. Matrices: the adjugate. Maps of straight lines: their numbers. Maps of straight lines: three numbers out of wide ones. Maps of straight lines: asked backwards. Maps of straight lines: a line's numbers with a place's. Maps of straight lines: what is divided by; its signs. Maps of straight lines: the place of a place. -/
import Derived.Test.YtjbelhpgbcnlmaaGreatSamplePixelsZz10
import Derived.Test.YtjbelhpgbcnlmaaGreatSamplePixelsZz8
import Derived.Deep.MidRow
import Derived.Laws.Cover3
import Derived.Test.YtjbelhpgbcnlmaaGreatSamplePixelsZz11
section
section
set_option linter.unusedVariables false
namespace Go.Proofs.YtjbelhpgbcnlmaaGreat
open Go.RowKit
def M31 (x:Int):Prop:=-2147483648≤x∧x≤2147483648
abbrev mA (m:Nat→Int):Array Value:=#[.int .i64 (m 0),.int .i64 (m 1),.int .i64 (m 2),.int .i64 (m 3),.int .i64 (m 4),.int .i64 (m 5),.int .i64 (m 6),.int .i64 (m 7),.int .i64 (m 8)]
theorem mout_any (x:Int) (w:World) (h:M31 x):Calls Tryz.prog 344 #[.int .i64 x] w fun e w'=>e=.returned (.bool false)∧w=w':=by
 obtain ⟨h1,h2⟩:=h
 go_enter Tryz.func344,Tryz.ntmps344
 go_wp2
 go_ret
 exact ⟨ret_bool (by simp;omega),rfl⟩
theorem Bk.cell9 {w:World} {g:Nat} {t:TypeId} {v0 v1 v2 v3 v4 v5 v6 v7 v8:Value} (h:Bk w g t #[v0,v1,v2,v3,v4,v5,v6,v7,v8]):w.cell? ⟨g,0,none⟩=some v0∧w.cell? ⟨g,1,none⟩=some v1∧w.cell? ⟨g,2,none⟩=some v2∧w.cell? ⟨g,3,none⟩=some v3∧w.cell? ⟨g,4,none⟩=some v4∧w.cell? ⟨g,5,none⟩=some v5∧w.cell? ⟨g,6,none⟩=some v6∧w.cell? ⟨g,7,none⟩=some v7∧w.cell? ⟨g,8,none⟩=some v8 :=
 ⟨by rw [h.cell];rfl,by rw [h.cell];rfl,by rw [h.cell];rfl,by rw [h.cell];rfl,by rw [h.cell];rfl,by rw [h.cell];rfl,by rw [h.cell];rfl,by rw [h.cell];rfl,by rw [h.cell];rfl⟩
theorem mA_at {m:Nat→Int} {w:World} {g:Nat} {t:TypeId} (h:Bk w g t (mA m)) (i:Nat) (hi:i<9):w.cell? ⟨g,i,none⟩=some (.int .i64 (m i)):=by
 rw [h.cell]
 have h9:i=0∨i=1∨i=2∨i=3∨i=4∨i=5∨i=6∨i=7∨i=8:=by omega
 rcases h9 with rfl|rfl|rfl|rfl|rfl|rfl|rfl|rfl|rfl <;> rfl
set_option maxRecDepth 100000 in
set_option maxHeartbeats 2000000 in
theorem mindex_any (m:Nat→Int) (g:Nat) (w:World) (hK:Bk w g 364 (mA m)) (hm:∀ i,i<9→M31 (m i)) :
 Calls Tryz.prog 293 #[.slice (some ⟨g,0,none⟩) 9 9,.func (.func 344) #[] #[]] w fun e w'=>e=.returned (.int .i64 (-1))∧w=w':=by
 have HM:=Lib.hid hm
 clear hm
 go_enter Tryz.func293,Tryz.ntmps293
 go_wp2_with fail
 go_loop [8] (fun v=>∃ k:Nat,k≤9∧v=.int .i64 k) (fun v=>9-(intOf v).toNat)
 case atStart=>exact ⟨0,by omega,rfl⟩
 case round =>
  obtain ⟨k,hk,rfl⟩:=hrel
  by_cases hlt:k<9
  ·have hc:=mA_at hK k hlt
   have hmk:=HM.out k hlt
   go_wp2_with ((with_reducible refine (mout_any _ _ hmk).mono ?_);rintro e w1 ⟨rfl,rfl⟩)
   exact ⟨⟨k+1,by omega,by go_num⟩,by simp [intOf];omega⟩
  ·obtain rfl:k=9:=by omega
   go_wp2_with fail
   go_ret
   exact ⟨rfl,rfl⟩
set_option maxHeartbeats 1000000 in
theorem mright_any (m:Nat→Int) (w:World) (hm:∀ i,i<9→M31 (m i)):Calls Tryz.prog 329 #[.agg (mA m)] w fun e w'=>e=.returned (.bool true)∧Below w.heap.size w w':=by
 have HM:=Lib.hid hm
 clear hm
 have hK:=Bk.new w 364 (mA m)
 have hC:∀ (w':World) (g:Nat),Bk w' g 364 (mA m)→Calls Tryz.prog 241 #[.slice (some ⟨g,0,none⟩) 9 9,.func (.func 344) #[] #[]] w' fun e w''=>e=.returned (.bool false)∧w'=w'':=fun w' g hk=>by
  go_enter Tryz.func241,Tryz.ntmps241
  go_wp2_with (go_at_call 293;(with_reducible refine (mindex_any m g _ hk HM.out).mono ?_);rintro e w1 ⟨rfl,rfl⟩)
  go_ret
  exact ⟨rfl,rfl⟩
 go_enter Tryz.func329,Tryz.ntmps329
 go_wp2_with (go_at_call 241;(with_reducible refine (hC _ _ (by exact hK)).mono ?_);rintro e w1 ⟨rfl,rfl⟩)
 go_returns
 exact ⟨rfl,by go_grown⟩
def mAt (m:Nat→Int) (r c:Int):Int:=m (r%3*3+c%3).toNat
set_option maxRecDepth 100000 in
set_option maxHeartbeats 4000000 in
theorem mat_any (m:Nat→Int) (r c:Int) (w:World) (hr:0≤r) (hr2:r≤4) (hc:0≤c) (hc2:c≤4):Calls Tryz.prog 347 #[.agg (mA m),.int .i64 r,.int .i64 c] w fun e w'=>e=.returned (.int .i64 (mAt m r c))∧Below w.heap.size w w':=by
 have hK:=Bk.new w 364 (mA m)
 obtain ⟨i,hi,hi9⟩:∃ i:Nat,r%3*3+c%3=(i:Int)∧i<9:=⟨(r%3*3+c%3).toNat,by omega,by omega⟩
 have hx:=mA_at hK i hi9
 have HM:Hid (mAt m r c=m i):=by show _=_;unfold mAt;rw [hi,Int.toNat_natCast]
 go_enter Tryz.func347,Tryz.ntmps347
 go_wp2
 go_returns
 exact ⟨ret_int HM.out.symm,by go_grown⟩
theorem mAt_bd {m:Nat→Int} (hm:∀ i,i<9→M31 (m i)) (r c:Int):M31 (mAt m r c):=hm _ (by omega)
theorem prod31 {x y:Int} (hx:M31 x) (hy:M31 y):-4611686018427387904≤x*y∧x*y≤4611686018427387904:=by
 unfold M31 at *
 have h:=Nat.mul_le_mul (show x.natAbs≤2147483648 by omega) (show y.natAbs≤2147483648 by omega)
 rw [← Int.natAbs_mul] at h
 omega
theorem m31_j {x:Int} (h:M31 x):J64 x:=by unfold M31 at h;unfold J64;omega
set_option maxHeartbeats 4000000 in
theorem mless_any (a b c d:Int) (w:World) (ha:M31 a) (hb:M31 b) (hc:M31 c) (hd:M31 d):Calls Tryz.prog 346 #[.int .i64 a,.int .i64 b,.int .i64 c,.int .i64 d] w fun e w'=>e=.returned (WV (a*b-c*d))∧Below w.heap.size w w':=by
 have p1:=prod31 ha hb
 have p2:=prod31 hc hd
 have h1:=fun w'=>wmul_any a b w' (m31_j ha) (m31_j hb)
 have h2:=fun w'=>wmul_any c d w' (m31_j hc) (m31_j hd)
 have h3:=fun w'=>wsub_any (a*b) (c*d) w' (by unfold Wd;omega) (by unfold Wd;omega) (by unfold Wd;omega)
 have hL:=(Lie.start w).alloc #[.int .i64 0,.int .u64 0] 289
 clear p1 p2 ha hb hc hd
 generalize a*b-c*d=z at *
 generalize a*b=x at *
 generalize c*d=y at *
 go_enter Tryz.func346,Tryz.ntmps346
 go_wp2_with fail
 refine (h1 _).mono ?_
 rintro e w1 ⟨rfl,hb1⟩
 replace hL:=hL.nx hb1
 go_wp2_with fail
 refine (h2 _).mono ?_
 rintro e w2 ⟨rfl,hb2⟩
 replace hL:=hL.nx hb2
 go_wp2_with (first
  | (go_at_call 348;(with_reducible refine (h3 _).mono ?_);rintro e w3 ⟨rfl,hb3⟩;have hL3:=(hL.nx hb3).alloc (wdA z) 289;have k3:Bk _ w.heap.size 289 #[.int .i64 0,.int .u64 0]:=hL3.k 1 (by simp))
  | (refine stWd rfl _ _ rfl k3 rfl rfl rfl ?_;intro w4 k4 hg4 hs4))
 refine bodyPost_ret (res_wd rfl k4 rfl) rfl ?_
 exact ⟨rfl,below_of_gb hL3.bel hg4 (by omega) hL3.sz⟩
theorem keep9 {w w':World} {B g:Nat} {v0 v1 v2 v3 v4 v5 v6 v7 v8:Value}
 (h:w.cell? ⟨g,0,none⟩=some v0∧w.cell? ⟨g,1,none⟩=some v1∧w.cell? ⟨g,2,none⟩=some v2∧w.cell? ⟨g,3,none⟩=some v3∧w.cell? ⟨g,4,none⟩=some v4∧w.cell? ⟨g,5,none⟩=some v5∧w.cell? ⟨g,6,none⟩=some v6∧w.cell? ⟨g,7,none⟩=some v7∧w.cell? ⟨g,8,none⟩=some v8)
 (hg:g<B) (hb:Below B w w') :
 (w'.cell? ⟨g,0,none⟩=some v0∧w'.cell? ⟨g,1,none⟩=some v1∧w'.cell? ⟨g,2,none⟩=some v2∧w'.cell? ⟨g,3,none⟩=some v3∧w'.cell? ⟨g,4,none⟩=some v4∧w'.cell? ⟨g,5,none⟩=some v5∧w'.cell? ⟨g,6,none⟩=some v6∧w'.cell? ⟨g,7,none⟩=some v7∧w'.cell? ⟨g,8,none⟩=some v8)∧Below B w w':=by
 obtain ⟨h0,h1,h2,h3,h4,h5,h6,h7,h8⟩:=h
 exact ⟨⟨(hb.cell (by exact hg)).trans h0,(hb.cell (by exact hg)).trans h1,(hb.cell (by exact hg)).trans h2,(hb.cell (by exact hg)).trans h3,(hb.cell (by exact hg)).trans h4,(hb.cell (by exact hg)).trans h5,(hb.cell (by exact hg)).trans h6,(hb.cell (by exact hg)).trans h7,(hb.cell (by exact hg)).trans h8⟩,hb⟩
theorem Bk.range {w:World} {g:Nat} {t:TypeId} {cs:Array Value} (h:Bk w g t cs):w.rangeAt g 0 cs.toList:=fun j v hj=>by
 rw [Nat.zero_add,h.cell];simpa using hj
theorem range_below {w w':World} {B g:Nat} {l:List Value} (h:w.rangeAt g 0 l) (hg:g<B) (hb:Below B w w'):w'.rangeAt g 0 l∧Below B w w':=⟨fun j v hj=>(hb.cell (by exact hg)).trans (h j v hj),hb⟩
theorem m_info:(Tryz.prog.info? 364).map (·.size)=some 9:=by kernel_rfl
def cof (m:Nat→Int) (r c:Int):Int:=mAt m (r+1) (c+1)*mAt m (r+2) (c+2)-mAt m (r+1) (c+2)*mAt m (r+2) (c+1)
set_option maxRecDepth 100000 in
set_option maxHeartbeats 8000000 in
theorem cof_any (m:Nat→Int) (r c:Int) (w:World) (hm:∀ i,i<9→M31 (m i)) (hr:0≤r) (hr2:r≤2) (hc:0≤c) (hc2:c≤2) :
 Calls Tryz.prog 331 #[.agg (mA m),.int .i64 r,.int .i64 c] w fun e w'=>e=.returned (WV (cof m r c))∧Below w.heap.size w w':=by
 have hA:=fun (w':World) (x y:Int) (h1:0≤x) (h2:x≤4) (h3:0≤y) (h4:y≤4)=>mat_any m x y w' h1 h2 h3 h4
 have hLs:=fun w'=>mless_any (mAt m (r+1) (c+1)) (mAt m (r+2) (c+2)) (mAt m (r+1) (c+2)) (mAt m (r+2) (c+1)) w' (mAt_bd hm _ _) (mAt_bd hm _ _) (mAt_bd hm _ _) (mAt_bd hm _ _)
 have HC:=Lib.hid (show cof m r c=mAt m (r+1) (c+1)*mAt m (r+2) (c+2)-mAt m (r+1) (c+2)*mAt m (r+2) (c+1) from rfl)
 rw [← HC.out] at hLs
 clear HC hm
 have a1:IntKind.i64.wrap (r+1)=r+1:=IntWalk.i64_in _ ⟨by omega,by omega⟩
 have a2:IntKind.i64.wrap (r+2)=r+2:=IntWalk.i64_in _ ⟨by omega,by omega⟩
 have a3:IntKind.i64.wrap (c+1)=c+1:=IntWalk.i64_in _ ⟨by omega,by omega⟩
 have a4:IntKind.i64.wrap (c+2)=c+2:=IntWalk.i64_in _ ⟨by omega,by omega⟩
 have b11:=fun w'=>hA w' (r+1) (c+1) (by omega) (by omega) (by omega) (by omega)
 have b22:=fun w'=>hA w' (r+2) (c+2) (by omega) (by omega) (by omega) (by omega)
 have b12:=fun w'=>hA w' (r+1) (c+2) (by omega) (by omega) (by omega) (by omega)
 have b21:=fun w'=>hA w' (r+2) (c+1) (by omega) (by omega) (by omega) (by omega)
 clear hA
 have hL:=((Lie.start w).alloc (mA m) 364).alloc #[.int .i64 0,.int .u64 0] 289
 simp only [World.size_alloc] at hL
 go_enter Tryz.func331,Tryz.ntmps331
 go_upto_region 1 with fail
 generalize (w.alloc (.cells (mA m) 364)).alloc (.cells #[.int .i64 0,.int .u64 0] 289)=w1 at *
 have k0:Bk w1 w.heap.size 364 (mA m):=hL.k 1 (by simp)
 have k1:Bk w1 (w.heap.size+1) 289 #[.int .i64 0,.int .u64 0]:=hL.k 0 (by simp)
 have hcl:=k0.cell9
 have hlt:=k0.lt
 obtain ⟨c0,c1,c2,c3,c4,c5,c6,c7,c8⟩:=hcl
 have hb0:Below w1.heap.size w1 w1.drew:=below_drewN (Below.refl _ _) 1
 refine wp_region_quiet_tail 25 (by kernel_rfl) (by kernel_rfl) ?_
 simp only [List.take_succ_cons,List.take_zero,List.drop_succ_cons,List.drop_zero]
 repeat (first | (refine wpQuiet_load rfl _ _ rfl k0 rfl Tryz.underlying364 rfl m_info ?_;simp only [Act.put,List.setIfInBounds_toArray,List.set_cons_zero,List.set_cons_succ])|go_big_quiet_step ((first | with_reducible exact quiet_below (b11 _)|with_reducible exact quiet_below (b22 _)|with_reducible exact quiet_below (b12 _)|with_reducible exact quiet_below (b21 _)|with_reducible exact quiet_below (hLs _)))|quiet_step ((first | with_reducible exact quiet_below (b11 _)|with_reducible exact quiet_below (b22 _)|with_reducible exact quiet_below (b12 _)|with_reducible exact quiet_below (b21 _)|with_reducible exact quiet_below (hLs _))))
 refine wpQuiet_nil ?_
 intro _ hw'
 obtain ⟨⟨d,os⟩,hw''⟩:=hw'
 subst hw''
 have hbx:=below_regrown w1 d os
 generalize Go.Sort.grow (redrawn w1 d) os=wx at *
 have hLx:=hL.nx hbx
 have k1x:Bk wx (w.heap.size+1) 289 #[.int .i64 0,.int .u64 0]:=hLx.k 0 (by simp)
 go_wp2_with (refine stWd rfl _ _ rfl k1x rfl rfl rfl ?_;intro w4 k4 hg4 hs4)
 refine bodyPost_ret (res_wd rfl k4 rfl) rfl ?_
 exact ⟨rfl,below_of_gb hLx.bel hg4 (by omega) hLx.sz⟩
end Go.Proofs.YtjbelhpgbcnlmaaGreat
end
section
set_option linter.unusedVariables false
namespace Go.Proofs.YtjbelhpgbcnlmaaGreat
open Go.RowKit
def detS (m:Nat→Int):Nat→Int
 | 0=>0
 | k+1=>detS m k+cof m 0 k*m k
theorem cof_bd {m:Nat→Int} (hm:∀ i,i<9→M31 (m i)) (r c:Int):-9223372036854775808≤cof m r c∧cof m r c≤9223372036854775808:=by
 have h1:=prod31 (mAt_bd hm (r+1) (c+1)) (mAt_bd hm (r+2) (c+2))
 have h2:=prod31 (mAt_bd hm (r+1) (c+2)) (mAt_bd hm (r+2) (c+1))
 unfold cof;omega
theorem term_bd {m:Nat→Int} (hm:∀ i,i<9→M31 (m i)) (k:Nat) (hk:k<9):-19807040628566084398385987584≤cof m 0 k*m k∧cof m 0 k*m k≤19807040628566084398385987584∧ab (cof m 0 k)*ab (m k)≤19807040628566084398385987584∧0≤ab (cof m 0 k)*ab (m k):=by
 have h1:=cof_bd hm 0 k
 have h2:=hm k hk
 unfold M31 at h2
 have h:=Nat.mul_le_mul (show (cof m 0 k).natAbs≤9223372036854775808 by omega) (show (m k).natAbs≤2147483648 by omega)
 rw [← Int.natAbs_mul] at h
 have e:ab (cof m 0 k)*ab (m k)=((cof m 0 k*m k).natAbs:Int):=by
  rw [Int.natAbs_mul,Int.natCast_mul]
  congr 1 <;> (unfold ab;split <;> omega)
 rw [e]
 omega
theorem detS_bd {m:Nat→Int} (hm:∀ i,i<9→M31 (m i)):∀ k:Nat,k≤3→-19807040628566084398385987584*(k:Int)≤detS m k∧detS m k≤19807040628566084398385987584*(k:Int):=by
 intro k
 induction k with
 | zero=>intro _;simp [detS]
 | succ k ih =>
   intro hk
   have h1:=ih (by omega)
   have h2:=term_bd hm k (by omega)
   show _≤detS m k+cof m 0 k*m k∧detS m k+cof m 0 k*m k≤_
   rw [Int.natCast_succ];omega
set_option maxRecDepth 100000 in
set_option maxHeartbeats 8000000 in
theorem mdet_any (m:Nat→Int) (w:World) (hm:∀ i,i<9→M31 (m i)) :
 Calls Tryz.prog 284 #[.agg (mA m)] w fun e w'=>e=.returned (.tuple #[WV (detS m 3),.int .i64 0])∧Below w.heap.size w w':=by
 have HM:=Lib.hid hm
 have hR:=fun w'=>mright_any m w' hm
 have hL:=((Lie.start w).alloc (mA m) 364).alloc #[.int .i64 0,.int .u64 0] 289
 simp only [World.size_alloc] at hL
 clear hm
 go_enter Tryz.func284,Tryz.ntmps284
 go_wp2_with fail
 refine (hR _).mono ?_
 rintro e w1 ⟨rfl,hb1⟩
 replace hL:=(hL.nx hb1).alloc #[.int .i64 0,.int .u64 0] 289
 obtain ⟨g4,hg4⟩:∃ g,g=w1.heap.size:=⟨_,rfl⟩
 have hz1:w.heap.size+1<w1.heap.size:=by have:=hb1.size;simp at this;omega
 go_wp2_with fail
 rw [← wd0] at hL
 clear hb1
 go_loopw [5,12] (fun _ kv wr=>∃ k:Nat,k≤3∧kv=.int .i64 k∧Lie w [(w1.heap.size,289,wdA (detS m k)),(w.heap.size+1,289,#[.int .i64 0,.int .u64 0]),(w.heap.size,364,mA m)] wr) (fun _ kv _=>3-(intOf kv).toNat)
 case atStart=>exact ⟨0,by omega,rfl,hL⟩
 case round =>
  clear hL
  obtain ⟨k,hk,rfl,hL⟩:=hrel
  by_cases hlt:k<3
  ·have hcof:=fun w'=>cof_any m 0 k w' HM.out (by omega) (by omega) (by omega) (by omega)
   have htb:=term_bd HM.out k (by omega)
   have hcb:=cof_bd HM.out 0 k
   have hdb:=detS_bd HM.out k hk
   have hdb1:=detS_bd HM.out (k+1) (by omega)
   have hSc:=fun w'=>wscale_any (cof m 0 k) (m k) w' (by unfold Wd;omega) (m31_j (HM.out k (by omega))) (by unfold Wd;omega)
   have hAd:=fun w'=>wadd_any (detS m k) (cof m 0 k*m k) w' (by unfold Wd;omega) (by unfold Wd;omega) (by show Wd (detS m (k+1));unfold Wd;omega)
   have HD:=Lib.hid (show detS m (k+1)=detS m k+cof m 0 k*m k from rfl)
   rw [← HD.out] at hAd
   clear htb hcb hdb hdb1 HD
   generalize hdn:detS m (k+1)=dn at *
   have HDN:=Lib.hid hdn
   clear hdn
   generalize hdk:detS m k=dk at *
   generalize hck:cof m 0 k*m k=pk at *
   clear hdk hck
   have k0:Bk wr w.heap.size 364 (mA m):=hL.k 2 (by simp)
   have hlt0:=k0.lt
   have hcx:=mA_at k0 k (by omega)
   have hRg:=k0.range
   have hu:=Tryz.underlying364
   have hi:(Tryz.prog.info? 364).map (·.size)=some (mA m).toList.length:=m_info
   go_upto_region 7 with fail
   have hk0:(0:Int)≤k:=by omega
   have hk9:(k:Int)<9:=by omega
   go_cut [6] (fun p wx=>∃ g:Nat,p=.pointer (some ⟨g,0,none⟩)∧wr.heap.size≤g∧Bk wx g 289 (wdA pk)∧Below wr.heap.size wr wx)
   case first =>
    go_region_held3 (fun w'=>w'.rangeAt w.heap.size 0 (mA m).toList∧w'.cell? ⟨w.heap.size,k,none⟩=some (.int .i64 (m k))∧Below wr.heap.size wr w')
     (first
       | with_reducible exact ⟨(range_below hRg hlt0 hbl).1,(hbl.cell (p:=⟨w.heap.size,k,none⟩) hlt0).trans hcx,hbl⟩
       | (refine (fun hb=>⟨(range_below hRg hlt0 hb).1,(hb.cell (p:=⟨w.heap.size,k,none⟩) hlt0).trans hcx,hb⟩) ?_;first | with_reducible exact Below.alloc hbl hbl.size _|with_reducible exact below_of_gb hbl (gb2 wm wr.heap.size _ _) (Nat.le_refl _) hbl.size|with_reducible exact below_of_gb hbl (gb2 wm wl.heap.size _ _) hll hbl.size|go_grown))
     (first
       | (go_at_call 331;(with_reducible refine (hcof _).mono ?_);rintro e wl ⟨rfl,hbl'⟩;have hbl:Below wr.heap.size wr wl:=(by first | exact hbl'|exact Below.trans (by first | exact Below.alloc hbl hbl.size _|exact hbl|go_grown) (hbl'.mono (by first | exact hbl.size|exact Nat.le_refl _|(simp;done)|(simp;omega))));have hll:=hbl.size;have hcl:=(bcell hbl').1;have hfl:=(bcell hbl').2)
       | (go_at_call 330;(with_reducible refine (hSc _).mono ?_);rintro e wm ⟨rfl,hbm'⟩;have hbm:Below wr.heap.size wr wm:=(by first | exact Below.trans (by first | exact hbl|exact Below.alloc hbl hbl.size _) (hbm'.mono (by first | exact hbl.size|(have:=hbl.size;simp;done)|(have:=hbl.size;simp;omega))));have hcm:=(bcell hbm').1;have hfm:=(bcell hbm').2;(try (have hs1:wr.heap.size<wl.heap.size:=by have:=hbl'.size;simp at this;omega));(try (have hs2:wl.heap.size<wm.heap.size:=by have:=hbm'.size;simp at this;omega));have hbl:=hbm))
    all_goals
     go_wp2_with fail
     go_meet
     first
      | exact ⟨wm.heap.size,rfl,hbm.size,Bk.new wm _ _,Below.alloc hbm hbm.size _⟩
      | exact ⟨wl.heap.size,rfl,hll,((Bk.new wl 289 #[.int .i64 0,.int .u64 0]).nx hbm').set2 _ _,below_of_gb hbm (gb2 wm wl.heap.size _ _) hll hbm.size⟩
      | exact ⟨wr.heap.size,rfl,Nat.le_refl _,(((Bk.new wr.drew 289 #[.int .i64 0,.int .u64 0]).nx hbl').nx hbm').set2 _ _,below_of_gb hbm (gb2 wm wr.heap.size _ _) (Nat.le_refl _) hbm.size⟩
   case rest =>
    obtain ⟨g,rfl,hgr,k6,hbx⟩:=hcut
    have hLx:=hL.nx hbx
    have k4:Bk wc w1.heap.size 289 (wdA dk):=hLx.k 0 (by simp)
    obtain ⟨a0,a1⟩:=k4.cell2
    obtain ⟨b0,b1⟩:=k6.cell2
    go_wp2_with (first
     | (go_at_call 282;(with_reducible refine (hAd _).mono ?_);rintro e w5 ⟨rfl,hb5⟩;have hL5:=hLx.nx hb5;have k45:=k4.nx hb5)
     | (refine stWd rfl _ _ rfl k45 rfl rfl rfl ?_;intro w6 k46 hg6 hs6))
    have hL6:=hL5.set hg6 k46 (by omega) (by intro x hx;simp at hx;rcases hx with rfl|rfl <;> simp <;> omega)
    exact ⟨⟨k+1,by omega,by go_num,by rw [HDN.out];exact hL6⟩,by simp [intOf];omega⟩
  ·obtain rfl:k=3:=by omega
   have k4:Bk wr w1.heap.size 289 (wdA (detS m 3)):=hL.k 0 (by simp)
   have k1:Bk wr (w.heap.size+1) 289 #[.int .i64 0,.int .u64 0]:=hL.k 1 (by simp)
   obtain ⟨a0,a1⟩:=k4.cell2
   go_wp2_with (refine stWd rfl _ _ rfl k1 rfl rfl rfl ?_;intro w6 k16 hg6 hs6)
   refine bodyPost_ret (res_wd_tmp rfl k16 rfl) rfl ?_
   exact ⟨rfl,below_of_gb hL.bel hg6 (by omega) hL.sz⟩
end Go.Proofs.YtjbelhpgbcnlmaaGreat
end
section
set_option linter.unusedVariables false
namespace Go.Proofs.YtjbelhpgbcnlmaaGreat
open Go.RowKit
abbrev wAd (f:Nat→Int):Array Value:=#[.int .i64 (hi6 (f 0)),.int .u64 (lo6 (f 0)),.int .i64 (hi6 (f 1)),.int .u64 (lo6 (f 1)),.int .i64 (hi6 (f 2)),.int .u64 (lo6 (f 2)),.int .i64 (hi6 (f 3)),.int .u64 (lo6 (f 3)),.int .i64 (hi6 (f 4)),.int .u64 (lo6 (f 4)),.int .i64 (hi6 (f 5)),.int .u64 (lo6 (f 5)),.int .i64 (hi6 (f 6)),.int .u64 (lo6 (f 6)),.int .i64 (hi6 (f 7)),.int .u64 (lo6 (f 7)),.int .i64 (hi6 (f 8)),.int .u64 (lo6 (f 8))]
def adK (m:Nat→Int) (k:Nat) (j:Nat):Int:=if j<k then cof m ((j%3:Nat):Int) ((j/3:Nat):Int) else 0
theorem adK_step (m:Nat→Int) (k:Nat) (hk:k<9):((wAd (adK m k)).setIfInBounds (k*2) (.int .i64 (hi6 (cof m ((k%3:Nat):Int) ((k/3:Nat):Int))))).setIfInBounds (k*2+1) (.int .u64 (lo6 (cof m ((k%3:Nat):Int) ((k/3:Nat):Int))))=wAd (adK m (k+1)):=by
 have h9:k=0∨k=1∨k=2∨k=3∨k=4∨k=5∨k=6∨k=7∨k=8:=by omega
 rcases h9 with rfl|rfl|rfl|rfl|rfl|rfl|rfl|rfl|rfl <;> rfl
abbrev adZ:Array Value:=#[.int .i64 0,.int .u64 0,.int .i64 0,.int .u64 0,.int .i64 0,.int .u64 0,.int .i64 0,.int .u64 0,.int .i64 0,.int .u64 0,.int .i64 0,.int .u64 0,.int .i64 0,.int .u64 0,.int .i64 0,.int .u64 0,.int .i64 0,.int .u64 0]
theorem adZ_eq (m:Nat→Int):adZ=wAd (adK m 0):=by rfl
theorem ad_info:(Tryz.prog.info? 368).map (·.size)=some 18:=by kernel_rfl
theorem st_two {P:Program} {ops:Array Oper} {rest:List Oper} {o:Oper} {a:Act} {w:World} {Q:Exit→Act→World→Prop} (hgd:o.guard=none) (ty:TypeId) (x y:Operand) (ho:o.op=.store ty x y)
 {g:Nat} {t:TypeId} {old:Array Value} (hK:Bk w g t old) (i:Nat) (hi2:i+2≤old.size) (u v:Value) (hx:a.eval x=.pointer (some ⟨g,i,none⟩)) (hy:a.eval y=.agg #[u,v])
 (hi:(P.info? ty).map (·.size)=some 2) (h1:u.oneCell'=true) (h2:v.oneCell'=true)
 (h:∀ w',Bk w' g t ((old.setIfInBounds i u).setIfInBounds (i+1) v)→w.grownBy w' (some g)→w'.heap.size=w.heap.size→wpList P ops Q rest (a.put o.dst undef) w'):wpList P ops Q (o::rest) a w:=by
 refine wpList_store_mid hgd ty x y ho g i #[u,v] hx hy (fun j hj=>⟨?_,hK.frozen _⟩) hi (by simp [h1,h2]) ?_
 ·rw [hK.cell]
  have hj2:j<2:=hj
  rw [Array.getElem?_eq_getElem (show i+j<old.size by omega)]
  simp
 ·exact h _ ((hK.set i u).set (i+1) v) (gb_setCell (g:=g) (p:=⟨g,i+1,none⟩) (gb_setCell (g:=g) (p:=⟨g,i,none⟩) (World.grownBy.refl w _) (.inl rfl) u) (.inl rfl) v) (by simp [World.setCells,World.setCell])
theorem set_two (w:World) (g o:Nat) (a b:Value):w.setCells g o [a,b]=(w.setCell ⟨g,o,none⟩ a).setCell ⟨g,o+1,none⟩ b:=by
 simp [World.setCells]
set_option maxRecDepth 100000 in
set_option maxHeartbeats 8000000 in
theorem madj_any (m:Nat→Int) (w:World) (hm:∀ i,i<9→M31 (m i)) :
 Calls Tryz.prog 285 #[.agg (mA m)] w fun e w'=>e=.returned (.tuple #[.agg (wAd (adK m 9)),.int .i64 0])∧Below w.heap.size w w':=by
 have HM:=Lib.hid hm
 have hR:=fun w'=>mright_any m w' hm
 have hL:=((Lie.start w).alloc (mA m) 364).alloc adZ 368
 simp only [World.size_alloc] at hL
 clear hm
 go_enter Tryz.func285,Tryz.ntmps285
 go_wp2_with fail
 refine (hR _).mono ?_
 rintro e w1 ⟨rfl,hb1⟩
 replace hL:=(hL.nx hb1).alloc adZ 368
 have hz1:w.heap.size+1<w1.heap.size:=by have:=hb1.size;simp at this;omega
 clear hb1
 have k0:Bk _ w.heap.size 364 (mA m):=hL.k 2 (by simp)
 obtain ⟨c0,c1,c2,c3,c4,c5,c6,c7,c8⟩:=k0.cell9
 go_wp2_with fail
 clear c0 c1 c2 c3 c4 c5 c6 c7 c8 k0
 rw [adZ_eq m] at hL
 go_loopw [6,13] (fun _ kv wr=>∃ k:Nat,k≤9∧kv=.int .i64 k∧Lie w [(w1.heap.size,368,wAd (adK m k)),(w.heap.size+1,368,adZ),(w.heap.size,364,mA m)] wr) (fun _ kv _=>9-(intOf kv).toNat)
 case atStart=>exact ⟨0,by omega,rfl,hL⟩
 case round =>
  clear hL
  obtain ⟨k,hk,rfl,hL⟩:=hrel
  by_cases hlt:k<9
  ·have hcof:=fun w'=>cof_any m ((k:Int)%3) ((k:Int)/3) w' HM.out (by omega) (by omega) (by omega) (by omega)
   have hk0:(0:Int)≤k:=by omega
   have hst:=adK_step m k hlt
   have ec1:(((k%3:Nat)):Int)=(k:Int)%3:=by omega
   have ec2:(((k/3:Nat)):Int)=(k:Int)/3:=by omega
   rw [ec1,ec2] at hst
   have HST:=Lib.hid hst
   clear ec1 ec2 hst
   go_wp2_with (first
    | (go_at_call 331;(with_reducible refine (hcof _).mono ?_);rintro e w2 ⟨rfl,hb2⟩;have hL2:=hL.nx hb2;have k4:Bk w2 w1.heap.size 368 (wAd (adK m k)):=hL2.k 0 (by simp))
    | (refine st_two rfl _ _ _ rfl k4 (k*2) (by simp;omega) (.int .i64 (hi6 (cof m ((k:Int)%3) ((k:Int)/3)))) (.int .u64 (lo6 (cof m ((k:Int)%3) ((k:Int)/3)))) rfl rfl wd_size rfl rfl ?_;intro w6 k46 hg6 hs6))
   have hL6:=hL2.set hg6 k46 (by omega) (by intro x hx;simp at hx;rcases hx with rfl|rfl <;> simp <;> omega)
   rw [HST.out] at hL6
   exact ⟨⟨k+1,by omega,by go_num,hL6⟩,by simp [intOf];omega⟩
  ·obtain rfl:k=9:=by omega
   have k4:Bk wr w1.heap.size 368 (wAd (adK m 9)):=hL.k 0 (by simp)
   have k1:Bk wr (w.heap.size+1) 368 adZ:=hL.k 1 (by simp)
   go_wp2_with (first
    | (refine wpList_load_row rfl _ _ rfl _ rfl _ _ (0,0) _ k4 Tryz.underlying368 rfl ad_info ?_)
    | (refine stB rfl 368 _ _ rfl k1 (wAd (adK m 9)) rfl rfl ad_info rfl (by simp [Value.oneCell']) ?_;intro w6 k16 hg6 hs6))
   refine bodyPost_ret (res_cell_tmp rfl k16 rfl Tryz.underlying368 rfl ad_info) rfl ?_
   exact ⟨rfl,below_of_gb hL.bel hg6 (by omega) hL.sz⟩
end Go.Proofs.YtjbelhpgbcnlmaaGreat
end
section
set_option linter.unusedVariables false
namespace Go.Proofs.YtjbelhpgbcnlmaaGreat
open Go.RowKit
def inH (z m:Int):Bool:=decide (-m≤z∧z≤m)
theorem inH_iff {z m:Int}:inH z m=true ↔ (-m≤z∧z≤m):=by unfold inH;exact decide_eq_true_iff
theorem inH_eq (z m:Int):inH z m=(decide (-m≤z)&&decide (z≤m)):=by unfold inH;simp
set_option maxHeartbeats 400000 in
theorem hin_any (a b:Int) (w:World) (hb0:0≤b) (hb:b≤9223372036854775807):Calls Tryz.prog 283 #[.int .i64 a,.int .i64 b] w fun e w'=>e=.returned (.bool (inH a b))∧w=w':=by
 have hw:wrap64 (-b)=-b:=IntWalk.wrap64_in _ ⟨by omega,by omega⟩
 by_cases h1:-b≤a
 all_goals
  go_enter Tryz.func283,Tryz.ntmps283
  go_wp2
  go_ret
  exact ⟨ret_bool (by rw [inH_eq];simp <;> omega),rfl⟩
def most (k:Nat):Int:=if k=2∨k=5 then 2147483648 else if k=6∨k=7 then 4096 else 16777216
theorem most_bd (k:Nat):0≤most k∧most k≤2147483648:=by unfold most;split <;> (try split) <;> omega
set_option maxRecDepth 100000 in
theorem most_ix (k:Nat) (hk:k<9) (w:World):(Instr.index 363 (.agg #[.int .i64 16777216,.int .i64 16777216,.int .i64 2147483648,.int .i64 16777216,.int .i64 16777216,.int .i64 2147483648,.int .i64 4096,.int .i64 4096,.int .i64 16777216]) (.int .i64 k)).run Tryz.prog w=.ok (.int .i64 (most k)) w:=by
 have h9:k=0∨k=1∨k=2∨k=3∨k=4∨k=5∨k=6∨k=7∨k=8:=by omega
 rcases h9 with rfl|rfl|rfl|rfl|rfl|rfl|rfl|rfl|rfl <;> rfl
def rgB (l:List Int):Bool:=(List.range 9).all (fun i=>inH (l.getD i 0) (most i))
theorem rgB_iff {l:List Int}:rgB l=true ↔ ∀ i,i<9→inH (l.getD i 0) (most i)=true:=by
 unfold rgB;rw [List.all_eq_true];exact ⟨fun h i hi=>h i (List.mem_range.2 hi),fun h i hi=>h i (List.mem_range.1 hi)⟩
def rngC (l:List Int):Int:=if l.length≠9 then 12 else if rgB l=true then 0 else 11
set_option maxHeartbeats 2000000 in
theorem ranges_any (l:List Int) (A:Option Addr) (n cp:Nat) (w:World) {B:Nat} (hl:l.length=n) (hr:Rd w B A (l.map (Value.int .i64))) :
 Calls Tryz.prog 229 #[.slice A n cp] w fun e w'=>e=.returned (.int .i64 (rngC l))∧w=w':=by
 by_cases hn:n=9
 ·subst hn
  have HL:=Lib.hid hl
  clear hl
  go_enter Tryz.func229,Tryz.ntmps229
  go_wp2_with fail
  go_loop [3,4,9] (fun _ _ kv=>∃ k:Nat,k≤9∧kv=.int .i64 k∧Hid (∀ i,i<k→inH (l.getD i 0) (most i)=true)) (fun _ _ kv=>9-(intOf kv).toNat)
  case atStart=>exact ⟨0,by omega,rfl,by intro i hi;omega⟩
  case round =>
   obtain ⟨k,hk,rfl,hall⟩:=hrel
   by_cases hlt:k<9
   ·obtain ⟨b,o,rfl,hb,hc⟩:=hr.get k (by rw [List.length_map,HL.out];exact hlt)
    have hx:(l.map (Value.int .i64))[k]'(by rw [List.length_map,HL.out];exact hlt)=.int .i64 (l.getD k 0):=by
     rw [List.getElem_map,List.getD_eq_getElem?_getD,List.getElem?_eq_getElem (by rw [HL.out];exact hlt)];rfl
    rw [hx] at hc
    clear hx
    have hix:=most_ix k hlt
    obtain ⟨m0,m1⟩:=most_bd k
    cases hi:inH (l.getD k 0) (most k)
    ·have HR:Hid (rngC l=11):=by
      show _=_
      unfold rngC
      rw [if_neg (by rw [HL.out];simp),if_neg]
      intro h
      have:=rgB_iff.1 h k hlt
      rw [hi] at this;cases this
     generalize l.getD k 0=x at *
     generalize most k=mk at *
     go_wp2_with (go_at_call 283;(with_reducible refine (hin_any _ _ _ m0 (by omega)).mono ?_);rintro e w' ⟨rfl,rfl⟩;rw [hi])
     go_ret
     exact ⟨ret_int HR.out.symm,rfl⟩
    ·have HN:Hid (∀ i,i<k+1→inH (l.getD i 0) (most i)=true):=by
      intro i hi2
      by_cases e:i=k
      ·rw [e];exact hi
      ·exact hall.out i (by omega)
     generalize l.getD k 0=x at *
     generalize most k=mk at *
     go_wp2_with (go_at_call 283;(with_reducible refine (hin_any _ _ _ m0 (by omega)).mono ?_);rintro e w' ⟨rfl,rfl⟩;rw [hi])
     exact ⟨⟨k+1,by omega,by go_num,HN⟩,by simp [intOf];omega⟩
   ·obtain rfl:k=9:=by omega
    have HR:Hid (rngC l=0):=by
     show _=_
     unfold rngC
     rw [if_neg (by rw [HL.out];simp),if_pos]
     exact rgB_iff.2 hall.out
    go_wp2_with fail
    go_ret
    exact ⟨ret_int HR.out.symm,rfl⟩
 ·have HR:Hid (rngC l=12):=by show _=_;unfold rngC;rw [if_pos (by omega)]
  have hnb:((n:Int) != 9)=true:=by rw [bne_iff_ne];omega
  clear hl hn
  go_enter Tryz.func229,Tryz.ntmps229
  go_wp2_with fail
  all_goals first
   | (go_ret;exact ⟨ret_int HR.out.symm,rfl⟩)
   | (exfalso;omega)
def rightH (x y d:Int):Bool:=decide ((-1048576≤x∧x≤1048576)∧(-1048576≤y∧y≤1048576)∧1≤d∧d≤16)
theorem rightH_iff {x y d:Int}:rightH x y d=true ↔ ((-1048576≤x∧x≤1048576)∧(-1048576≤y∧y≤1048576)∧1≤d∧d≤16):=by unfold rightH;exact decide_eq_true_iff
set_option maxHeartbeats 1000000 in
theorem hright_any (x y d:Int) (w:World):Calls Tryz.prog 232 #[.int .i64 x,.int .i64 y,.int .i64 d] w fun e w'=>e=.returned (.bool (rightH x y d))∧w=w':=by
 have e0:rightH x y d=(inH x 1048576&&(inH y 1048576&&(decide (1≤d)&&decide (d≤16)))):=by
  unfold rightH inH
  rw [Bool.eq_iff_iff];simp only [decide_eq_true_iff,Bool.and_eq_true]
 have E0:=Lib.hid e0
 clear e0
 cases h1:inH x 1048576
 ·go_enter Tryz.func232,Tryz.ntmps232
  go_wp2_with (go_at_call 283;(with_reducible refine (hin_any _ _ _ (by decide) (by decide)).mono ?_);rintro e w' ⟨rfl,rfl⟩)
  go_ret
  exact ⟨ret_bool (by rw [E0.out,h1];rfl),rfl⟩
 ·cases h2:inH y 1048576
  ·go_enter Tryz.func232,Tryz.ntmps232
   go_wp2_with (go_at_call 283;(with_reducible refine (hin_any _ _ _ (by decide) (by decide)).mono ?_);rintro e w' ⟨rfl,rfl⟩)
   go_ret
   exact ⟨ret_bool (by rw [E0.out,h1,h2];rfl),rfl⟩
  ·by_cases h3:1≤d
   all_goals
    go_enter Tryz.func232,Tryz.ntmps232
    go_wp2_with (go_at_call 283;(with_reducible refine (hin_any _ _ _ (by decide) (by decide)).mono ?_);rintro e w' ⟨rfl,rfl⟩)
    go_ret
    exact ⟨ret_bool (by rw [E0.out,h1,h2];simp <;> omega),rfl⟩
end Go.Proofs.YtjbelhpgbcnlmaaGreat
end
section
set_option linter.unusedVariables false
namespace Go.Proofs.YtjbelhpgbcnlmaaGreat
open Go.RowKit
abbrev a3 (x y z:Int):Array Value:=#[.int .i64 x,.int .i64 y,.int .i64 z]
theorem a3_info:(Tryz.prog.info? 284).map (·.size)=some 3:=by kernel_rfl
def th3 (x y z:Int) (k:Nat):Array Value:=match k with|0=>a3 0 0 0|1=>a3 x 0 0|2=>a3 x y 0|_=>a3 x y z
set_option maxRecDepth 100000 in
set_option maxHeartbeats 8000000 in
theorem three_any (g o cp:Nat) (x y z:Int) (w:World) (hg:g<w.heap.size) (hx:J64 x) (hy:J64 y) (hz:J64 z)
 (h0:w.cell? ⟨g,o,none⟩=some (.int .i64 (hi6 x))) (h1:w.cell? ⟨g,o+1,none⟩=some (.int .u64 (lo6 x)))
 (h2:w.cell? ⟨g,o+2,none⟩=some (.int .i64 (hi6 y))) (h3:w.cell? ⟨g,o+3,none⟩=some (.int .u64 (lo6 y)))
 (h4:w.cell? ⟨g,o+4,none⟩=some (.int .i64 (hi6 z))) (h5:w.cell? ⟨g,o+5,none⟩=some (.int .u64 (lo6 z))) :
 Calls Tryz.prog 286 #[.slice (some ⟨g,o,none⟩) 3 cp] w fun e w'=>e=.returned (.agg (a3 x y z))∧Below w.heap.size w w':=by
 have hFx:=fun w'=>fits64_yes x w' hx
 have hFy:=fun w'=>fits64_yes y w' hy
 have hFz:=fun w'=>fits64_yes z w' hz
 have hL:=((Lie.start w).alloc (a3 0 0 0) 284).alloc (a3 0 0 0) 284
 simp only [World.size_alloc] at hL
 clear hx hy hz
 go_enter Tryz.func286,Tryz.ntmps286
 go_wp2_with fail
 go_loopw [4,5,8] (fun _ _ kv wr=>∃ k:Nat,k≤3∧kv=.int .i64 k∧Lie w [(w.heap.size+1,284,th3 x y z k),(w.heap.size,284,a3 0 0 0)] wr) (fun _ _ kv _=>3-(intOf kv).toNat)
 case atStart=>exact ⟨0,by omega,rfl,hL⟩
 case round =>
  clear hL
  obtain ⟨k,hk,rfl,hL⟩:=hrel
  by_cases hlt:k<3
  ·have c0:=(hL.bel.cell (p:=⟨g,o,none⟩) hg).trans h0
   have c1:=(hL.bel.cell (p:=⟨g,o+1,none⟩) hg).trans h1
   have c2:=(hL.bel.cell (p:=⟨g,o+2,none⟩) hg).trans h2
   have c3:=(hL.bel.cell (p:=⟨g,o+3,none⟩) hg).trans h3
   have c4:=(hL.bel.cell (p:=⟨g,o+4,none⟩) hg).trans h4
   have c5:=(hL.bel.cell (p:=⟨g,o+5,none⟩) hg).trans h5
   have hgr:g<wr.heap.size:=Nat.lt_of_lt_of_le hg hL.sz
   have h3c:k=0∨k=1∨k=2:=by omega
   rcases h3c with rfl|rfl|rfl
   ·have hLa:=hL.alloc (wdA x) 289
    go_wp2_with (go_at_call 299;(with_reducible refine (hFx _).mono ?_);rintro e w2 ⟨rfl,hb2⟩;have hL2:=hLa.nx hb2;have k3:Bk w2 (w.heap.size+1) 284 (a3 0 0 0):=hL2.k 1 (by simp);obtain ⟨d0,d1,d2⟩:=k3.cell3;have f0:=k3.frozen 0)
    have hL3:Lie w [(w.heap.size+1,284,a3 0 0 0),(w.heap.size,284,a3 0 0 0)] w2:=hL2.sub (fun q hq=>List.mem_cons_of_mem _ hq)
    have hL4:=hL3.set (gb_set1 w2 ⟨w.heap.size+1,0,none⟩ (.int .i64 x)) (k3.set 0 (.int .i64 x)) (by simp) (by intro q hq;simp at hq;rcases hq with rfl;simp)
    exact ⟨⟨1,by omega,rfl,hL4⟩,by simp [intOf]⟩
   ·have hLa:=hL.alloc (wdA y) 289
    go_wp2_with (go_at_call 299;(with_reducible refine (hFy _).mono ?_);rintro e w2 ⟨rfl,hb2⟩;have hL2:=hLa.nx hb2;have k3:Bk w2 (w.heap.size+1) 284 (a3 x 0 0):=hL2.k 1 (by simp);obtain ⟨d0,d1,d2⟩:=k3.cell3;have f0:=k3.frozen 1)
    have hL3:Lie w [(w.heap.size+1,284,a3 x 0 0),(w.heap.size,284,a3 0 0 0)] w2:=hL2.sub (fun q hq=>List.mem_cons_of_mem _ hq)
    have hL4:=hL3.set (gb_set1 w2 ⟨w.heap.size+1,1,none⟩ (.int .i64 y)) (k3.set 1 (.int .i64 y)) (by simp) (by intro q hq;simp at hq;rcases hq with rfl;simp)
    exact ⟨⟨2,by omega,rfl,hL4⟩,by simp [intOf]⟩
   ·have hLa:=hL.alloc (wdA z) 289
    go_wp2_with (go_at_call 299;(with_reducible refine (hFz _).mono ?_);rintro e w2 ⟨rfl,hb2⟩;have hL2:=hLa.nx hb2;have k3:Bk w2 (w.heap.size+1) 284 (a3 x y 0):=hL2.k 1 (by simp);obtain ⟨d0,d1,d2⟩:=k3.cell3;have f0:=k3.frozen 2)
    have hL3:Lie w [(w.heap.size+1,284,a3 x y 0),(w.heap.size,284,a3 0 0 0)] w2:=hL2.sub (fun q hq=>List.mem_cons_of_mem _ hq)
    have hL4:=hL3.set (gb_set1 w2 ⟨w.heap.size+1,2,none⟩ (.int .i64 z)) (k3.set 2 (.int .i64 z)) (by simp) (by intro q hq;simp at hq;rcases hq with rfl;simp)
    exact ⟨⟨3,by omega,rfl,hL4⟩,by simp [intOf]⟩
  ·obtain rfl:k=3:=by omega
   have k3:Bk wr (w.heap.size+1) 284 (a3 x y z):=hL.k 0 (by simp)
   have k2:Bk wr w.heap.size 284 (a3 0 0 0):=hL.k 1 (by simp)
   obtain ⟨d0,d1,d2⟩:=k3.cell3
   go_wp2_with (refine stB rfl 284 _ _ rfl k2 (a3 x y z) rfl rfl a3_info rfl (by simp [Value.oneCell']) ?_;intro w6 k26 hg6 hs6)
   refine bodyPost_ret (res_cell rfl k26 rfl Tryz.underlying284 rfl a3_info) rfl ?_
   exact ⟨rfl,below_of_gb hL.bel hg6 (by omega) hL.sz⟩
end Go.Proofs.YtjbelhpgbcnlmaaGreat
end
section
set_option linter.unusedVariables false
namespace Go.Proofs.YtjbelhpgbcnlmaaGreat
open Go.RowKit
def cf (l:List Int) (i:Nat):Int:=l.getD i 0
structure CfOk (l:List Int):Prop where
 len:l.length=9
 rg:rgB l=true
theorem CfOk.bd {l:List Int} (h:CfOk l) (i:Nat) (hi:i<9):-most i≤cf l i∧cf l i≤most i:=inH_iff.1 (rgB_iff.1 h.rg i hi)
theorem CfOk.m31 {l:List Int} (h:CfOk l) (i:Nat) (hi:i<9):M31 (cf l i):=by
 have h1:=h.bd i hi
 have h2:=most_bd i
 unfold M31;omega
theorem CfOk.prod {l:List Int} (h:CfOk l) (i j:Nat) (hi:i<9) (hj:j<9) (k:Int) (hk:most i*most j≤k):-k≤cf l i*cf l j∧cf l i*cf l j≤k:=by
 have h1:=h.bd i hi
 have h2:=h.bd j hj
 have m1:=most_bd i
 have m2:=most_bd j
 have hm:=Nat.mul_le_mul (show (cf l i).natAbs≤(most i).toNat by omega) (show (cf l j).natAbs≤(most j).toNat by omega)
 rw [← Int.natAbs_mul] at hm
 have e:(((most i).toNat*(most j).toNat:Nat):Int)=most i*most j:=by rw [Int.natCast_mul,Int.toNat_of_nonneg m1.1,Int.toNat_of_nonneg m2.1]
 omega
theorem ad_0 (m:Nat→Int):adK m 9 0=m 4*m 8-m 5*m 7:=rfl
theorem adb_0 {l:List Int} (h:CfOk l):J64 (adK (cf l) 9 0):=by
 have h1:=h.prod 4 8 (by decide) (by decide) 36028797018963968 (by decide)
 have h2:=h.prod 5 7 (by decide) (by decide) 36028797018963968 (by decide)
 rw [ad_0];unfold J64;omega
theorem ad_1 (m:Nat→Int):adK m 9 1=m 7*m 2-m 8*m 1:=rfl
theorem adb_1 {l:List Int} (h:CfOk l):J64 (adK (cf l) 9 1):=by
 have h1:=h.prod 7 2 (by decide) (by decide) 36028797018963968 (by decide)
 have h2:=h.prod 8 1 (by decide) (by decide) 36028797018963968 (by decide)
 rw [ad_1];unfold J64;omega
theorem ad_2 (m:Nat→Int):adK m 9 2=m 1*m 5-m 2*m 4:=rfl
theorem adb_2 {l:List Int} (h:CfOk l):J64 (adK (cf l) 9 2):=by
 have h1:=h.prod 1 5 (by decide) (by decide) 36028797018963968 (by decide)
 have h2:=h.prod 2 4 (by decide) (by decide) 36028797018963968 (by decide)
 rw [ad_2];unfold J64;omega
theorem ad_3 (m:Nat→Int):adK m 9 3=m 5*m 6-m 3*m 8:=rfl
theorem adb_3 {l:List Int} (h:CfOk l):J64 (adK (cf l) 9 3):=by
 have h1:=h.prod 5 6 (by decide) (by decide) 36028797018963968 (by decide)
 have h2:=h.prod 3 8 (by decide) (by decide) 36028797018963968 (by decide)
 rw [ad_3];unfold J64;omega
theorem ad_4 (m:Nat→Int):adK m 9 4=m 8*m 0-m 6*m 2:=rfl
theorem adb_4 {l:List Int} (h:CfOk l):J64 (adK (cf l) 9 4):=by
 have h1:=h.prod 8 0 (by decide) (by decide) 36028797018963968 (by decide)
 have h2:=h.prod 6 2 (by decide) (by decide) 36028797018963968 (by decide)
 rw [ad_4];unfold J64;omega
theorem ad_5 (m:Nat→Int):adK m 9 5=m 2*m 3-m 0*m 5:=rfl
theorem adb_5 {l:List Int} (h:CfOk l):J64 (adK (cf l) 9 5):=by
 have h1:=h.prod 2 3 (by decide) (by decide) 36028797018963968 (by decide)
 have h2:=h.prod 0 5 (by decide) (by decide) 36028797018963968 (by decide)
 rw [ad_5];unfold J64;omega
theorem ad_6 (m:Nat→Int):adK m 9 6=m 3*m 7-m 4*m 6:=rfl
theorem adb_6 {l:List Int} (h:CfOk l):J64 (adK (cf l) 9 6):=by
 have h1:=h.prod 3 7 (by decide) (by decide) 36028797018963968 (by decide)
 have h2:=h.prod 4 6 (by decide) (by decide) 36028797018963968 (by decide)
 rw [ad_6];unfold J64;omega
theorem ad_7 (m:Nat→Int):adK m 9 7=m 6*m 1-m 7*m 0:=rfl
theorem adb_7 {l:List Int} (h:CfOk l):J64 (adK (cf l) 9 7):=by
 have h1:=h.prod 6 1 (by decide) (by decide) 36028797018963968 (by decide)
 have h2:=h.prod 7 0 (by decide) (by decide) 36028797018963968 (by decide)
 rw [ad_7];unfold J64;omega
theorem ad_8 (m:Nat→Int):adK m 9 8=m 0*m 4-m 1*m 3:=rfl
theorem adb_8 {l:List Int} (h:CfOk l):J64 (adK (cf l) 9 8):=by
 have h1:=h.prod 0 4 (by decide) (by decide) 36028797018963968 (by decide)
 have h2:=h.prod 1 3 (by decide) (by decide) 36028797018963968 (by decide)
 rw [ad_8];unfold J64;omega
theorem mget {l:List Int} {w:World} {B:Nat} {A:Option Addr} (hl:l.length=9) (hr:Rd w B A (l.map (Value.int .i64))):∃ b o,A=some ⟨b,o,none⟩∧b<B∧∀ i,i<9→w.cell? ⟨b,o+i,none⟩=some (.int .i64 (cf l i)):=by
 obtain ⟨b,o,e,hb,_⟩:=hr.get 0 (by rw [List.length_map];omega)
 refine ⟨b,o,e,hb,fun i hi=>?_⟩
 obtain ⟨b2,o2,e2,_,hc⟩:=hr.get i (by rw [List.length_map];omega)
 rw [e] at e2
 injection e2 with e2
 injection e2 with e3 e4
 subst e3 e4
 rw [hc,List.getElem_map]
 unfold cf
 rw [List.getD_eq_getElem?_getD,List.getElem?_eq_getElem (by omega)]
 rfl
set_option maxRecDepth 100000 in
set_option maxHeartbeats 8000000 in
theorem back_any (l:List Int) (A:Option Addr) (cp:Nat) (w:World) {B:Nat} (hc:CfOk l) (hr:Rd w B A (l.map (Value.int .i64))) (hB:B≤w.heap.size) (hcp:9≤cp) :
 Calls Tryz.prog 230 #[.slice A 9 cp] w fun e w'=>∃ g,e=.returned (.tuple #[.pointer (some ⟨g,0,none⟩),.bool (decide (detS (cf l) 3≠0))])∧w.heap.size≤g∧Bk w' g 295 (mA (adK (cf l) 9))∧Below w.heap.size w w':=by
 obtain ⟨b,o,rfl,hb,hcl⟩:=mget hc.len hr
 have HC:=Lib.hid hc
 have c0:=hcl 0 (by decide)
 have c1:=hcl 1 (by decide)
 have c2:=hcl 2 (by decide)
 have c3:=hcl 3 (by decide)
 have c4:=hcl 4 (by decide)
 have c5:=hcl 5 (by decide)
 have c6:=hcl 6 (by decide)
 have c7:=hcl 7 (by decide)
 have c8:=hcl 8 (by decide)
 rw [Nat.add_zero] at c0
 have hbw:b<w.heap.size:=by omega
 have hDt:=fun w'=>mdet_any (cf l) w' hc.m31
 have hAj:=fun w'=>madj_any (cf l) w' hc.m31
 clear hcl hc hr
 go_enter Tryz.func230,Tryz.ntmps230
 have hat:∀ w':World,(Instr.arrayAt 364 (.slice (some ⟨b,o,none⟩) 9 cp)).run Tryz.prog w'=.ok (.pointer (some ⟨b,o,none⟩)) w':=fun w'=>run_arrayAt w' 364 2 9 (some ⟨b,o,none⟩) 9 cp Tryz.underlying364 (by decide)
 have hL:=(Lie.start w).alloc (mA (cf l)) 364
 have hthr:=fun (w':World) (g7:Nat) (hk:Bk w' g7 368 (wAd (adK (cf l) 9)))=>three_any g7 0 9 (adK (cf l) 9 0) (adK (cf l) 9 1) (adK (cf l) 9 2) w' hk.lt (adb_0 HC.out) (adb_1 HC.out) (adb_2 HC.out) (by rw [hk.cell];rfl) (by rw [hk.cell];rfl) (by rw [hk.cell];rfl) (by rw [hk.cell];rfl) (by rw [hk.cell];rfl) (by rw [hk.cell];rfl)
 have hthr2:=fun (w':World) (g7:Nat) (hk:Bk w' g7 368 (wAd (adK (cf l) 9)))=>three_any g7 6 6 (adK (cf l) 9 3) (adK (cf l) 9 4) (adK (cf l) 9 5) w' hk.lt (adb_3 HC.out) (adb_4 HC.out) (adb_5 HC.out) (by rw [hk.cell];rfl) (by rw [hk.cell];rfl) (by rw [hk.cell];rfl) (by rw [hk.cell];rfl) (by rw [hk.cell];rfl) (by rw [hk.cell];rfl)
 have hthr3:=fun (w':World) (g7:Nat) (hk:Bk w' g7 368 (wAd (adK (cf l) 9)))=>three_any g7 12 3 (adK (cf l) 9 6) (adK (cf l) 9 7) (adK (cf l) 9 8) w' hk.lt (adb_6 HC.out) (adb_7 HC.out) (adb_8 HC.out) (by rw [hk.cell];rfl) (by rw [hk.cell];rfl) (by rw [hk.cell];rfl) (by rw [hk.cell];rfl) (by rw [hk.cell];rfl) (by rw [hk.cell];rfl)
 obtain ⟨sg,hsg⟩:∃ sg,sgn (detS (cf l) 3)=sg:=⟨_,rfl⟩
 have hsd:Hid ((!(sg==0))=decide (detS (cf l) 3≠0)):=by
  show _=_
  rw [← hsg];unfold sgn
  by_cases h1:detS (cf l) 3<0
  ·rw [if_pos h1,decide_eq_true (by omega)];rfl
  ·rw [if_neg h1]
   by_cases h2:detS (cf l) 3=0
   ·rw [if_pos h2,decide_eq_false (by omega)];rfl
   ·rw [if_neg h2,decide_eq_true h2];rfl
 have hSg:=fun w'=>wsign_any (detS (cf l) 3) w'
 rw [hsg] at hSg
 clear hsg
 generalize hdet:detS (cf l) 3=det at *
 generalize adK (cf l) 9=ad at *
 clear hdet
 go_wp2_with fail
 refine (hDt _).mono ?_
 rintro e w1 ⟨rfl,hb1⟩
 replace hL:=(hL.nx hb1).alloc (wdA det) 289
 have k0:Bk _ w.heap.size 364 (mA (cf l)):=hL.k 1 (by simp)
 obtain ⟨m0,m1,m2,m3,m4,m5,m6,m7,m8⟩:=k0.cell9
 clear c0 c1 c2 c3 c4 c5 c6 c7 c8 hb1
 go_wp2_with fail
 refine (hAj _).mono ?_
 rintro e w2 ⟨rfl,hb2⟩
 replace hL:=(hL.nx hb2).alloc (wAd ad) 368
 clear m0 m1 m2 m3 m4 m5 m6 m7 m8 hb2 k0
 go_upto_region 4 with fail
 generalize w2.alloc (.cells (wAd ad) 368)=wz at *
 have k5:Bk wz w1.heap.size 289 (wdA det):=hL.k 1 (by simp)
 have k7:Bk wz w2.heap.size 368 (wAd ad):=hL.k 0 (by simp)
 have l5:=k5.lt
 have l7:=k7.lt
 obtain ⟨d0,d1⟩:=k5.cell2
 have hb0:Below wz.heap.size wz wz.drew:=below_drewN (Below.refl _ _) 1
 go_cut [2,3] (fun p q wx=>∃ g:Nat,p=.pointer (some ⟨g,0,none⟩)∧q=.bool (decide (det≠0))∧wz.heap.size≤g∧Bk wx g 295 (mA ad)∧Below wz.heap.size wz wx)
 case first =>
  go_region_held3 (fun w'=>w'.cell? ⟨w1.heap.size,0,none⟩=some (.int .i64 (hi6 det))∧w'.cell? ⟨w1.heap.size,1,none⟩=some (.int .u64 (lo6 det))∧Below wz.heap.size wz w')
   (first | with_reducible exact wd2_keep ⟨d0,d1⟩ l5 hbl|(refine wd2_keep ⟨d0,d1⟩ l5 ?_;first | with_reducible exact Below.alloc hbl hbl.size _|go_grown))
   (first
     | ((with_reducible refine (hthr _ _ (by exact k7.below (by first | exact hbl|exact hb0) l7)).mono ?_);rintro e wa ⟨rfl,hbl'⟩;have hbl:Below wz.heap.size wz wa:=hb0.trans (hbl'.mono (by exact Nat.le_refl _)))
     | ((with_reducible refine (hthr2 _ _ (by exact k7.below hbl l7)).mono ?_);rintro e wb ⟨rfl,hbl2⟩;have hbl:=hbl.trans (hbl2.mono hbl.size))
     | ((with_reducible refine (hthr3 _ _ (by exact k7.below hbl l7)).mono ?_);rintro e wd ⟨rfl,hbl3⟩;have hbd:=hbl.trans (hbl3.mono hbl.size);have hbl:=hbd)
     | (go_at_call 287;(with_reducible refine (hSg _).mono ?_);rintro e we ⟨rfl,hbl4⟩;have hbl:Below wz.heap.size wz we:=Below.trans (by first | exact hbd|exact Below.alloc hbd hbd.size _) (hbl4.mono (by first | exact hbd.size|(have:=hbd.size;simp;omega)))))
  all_goals
   go_wp2_with fail
   go_meet
   have hq:Value.bool (sg != 0)=.bool (decide (det≠0)):=congrArg Value.bool (by rw [← hsd.out];rfl)
   first
    | exact ⟨wd.heap.size,rfl,hq,hbd.size,(Bk.new wd 295 (mA ad)).nx hbl4,hbl⟩
    | exact ⟨we.heap.size,rfl,hq,hbl.size,Bk.new we 295 (mA ad),Below.alloc hbl hbl.size _⟩
 case rest =>
  obtain ⟨g,rfl,rfl,hg,k9,hbx⟩:=hcut
  go_wp2_with fail
  go_returns
  exact ⟨g,rfl,by have:=hL.sz;omega,k9,hL.bel.trans (hbx.mono hL.sz)⟩
end Go.Proofs.YtjbelhpgbcnlmaaGreat
end
section
set_option linter.unusedVariables false
namespace Go.Proofs.YtjbelhpgbcnlmaaGreat
open Go.RowKit
theorem mulbd {a b A B:Int} (h1:-A≤a) (h2:a≤A) (h3:-B≤b) (h4:b≤B):-(A*B)≤a*b∧a*b≤A*B:=by
 have h:=Nat.mul_le_mul (show a.natAbs≤A.toNat by omega) (show b.natAbs≤B.toNat by omega)
 rw [← Int.natAbs_mul] at h
 have e:((A.toNat*B.toNat:Nat):Int)=A*B:=by rw [Int.natCast_mul,Int.toNat_of_nonneg (by omega),Int.toNat_of_nonneg (by omega)]
 omega
structure LnOk (x y z:Int):Prop where
 x0:-1152921504606846976≤x
 x1:x≤1152921504606846976
 y0:-1152921504606846976≤y
 y1:y≤1152921504606846976
 z0:-1152921504606846976≤z
 z1:z≤1152921504606846976
theorem sum_bd {x y z px py d:Int} (h:LnOk x y z) (hp:rightH px py d=true):-1208925819614629174706176≤x*px∧x*px≤1208925819614629174706176∧-1208925819614629174706176≤y*py∧y*py≤1208925819614629174706176∧-18446744073709551616≤z*d∧z*d≤18446744073709551616∧J64 px∧J64 py∧J64 d:=by
 obtain ⟨⟨p0,p1⟩,⟨p2,p3⟩,p4,p5⟩:=rightH_iff.1 hp
 have h1:=mulbd h.x0 h.x1 p0 p1
 have h2:=mulbd h.y0 h.y1 p2 p3
 have h3:=mulbd h.z0 h.z1 (show -16≤d by omega) p5
 unfold J64
 omega
def smR (x y z px py d:Int):Int:=x*px+y*py+z*d
set_option maxRecDepth 100000 in
set_option maxHeartbeats 8000000 in
theorem hsum_any (x y z px py d:Int) (w:World) (h:LnOk x y z) (hp:rightH px py d=true) :
 Calls Tryz.prog 234 #[.agg (a3 x y z),.int .i64 px,.int .i64 py,.int .i64 d] w fun e w'=>e=.returned (WV (smR x y z px py d))∧Below w.heap.size w w':=by
 obtain ⟨b0,b1,b2,b3,b4,b5,j1,j2,j3⟩:=sum_bd h hp
 obtain ⟨x0,x1,y0,y1,z0,z1⟩:=h
 have hM1:=fun w'=>wmul_any x px w' ⟨by omega,by omega⟩ j1
 have hM2:=fun w'=>wmul_any y py w' ⟨by omega,by omega⟩ j2
 have hM3:=fun w'=>wmul_any z d w' ⟨by omega,by omega⟩ j3
 have hA1:=fun w'=>wadd_any (x*px) (y*py) w' (by unfold Wd;omega) (by unfold Wd;omega) (by unfold Wd;omega)
 have hA2:=fun w'=>wadd_any (x*px+y*py) (z*d) w' (by unfold Wd;omega) (by unfold Wd;omega) (by unfold Wd;omega)
 have HS:=Lib.hid (show smR x y z px py d=x*px+y*py+z*d from rfl)
 rw [← HS.out] at hA2
 clear b0 b1 b2 b3 b4 b5 j1 j2 j3 x0 x1 y0 y1 z0 z1 hp HS
 generalize smR x y z px py d=s at *
 generalize x*px+y*py=xy at *
 generalize x*px=xp at *
 generalize y*py=yp at *
 generalize z*d=zd at *
 have hL:=((Lie.start w).alloc (a3 x y z) 284).alloc #[.int .i64 0,.int .u64 0] 289
 simp only [World.size_alloc] at hL
 go_enter Tryz.func234,Tryz.ntmps234
 go_wp2_with fail
 refine (hM1 _).mono ?_
 rintro e w1 ⟨rfl,hb1⟩
 have hw1z:w.heap.size+1<w1.heap.size:=by have:=hb1.size;simp at this;omega
 replace hL:=(hL.nx hb1).alloc (wdA xp) 289
 clear hb1
 go_upto_region 2 with fail
 generalize w1.alloc (.cells (wdA xp) 289)=w2 at *
 have k4:Bk w2 w.heap.size 284 (a3 x y z):=hL.k 2 (by simp)
 have k9:Bk w2 w1.heap.size 289 (wdA xp):=hL.k 0 (by simp)
 have q1:=fun (d:Nat) (os:Array Obj)=>cell_regrown (k4.cell3).2.1 d os
 refine wp_region_quiet_late 7 8 (by kernel_rfl) (by kernel_rfl) ?_
 simp only [List.take_succ_cons,List.take_zero]
 repeat (first | (refine wpQuiet_load rfl _ _ rfl k9 rfl Tryz.underlying289 rfl wd_size ?_;simp only [Act.put,List.setIfInBounds_toArray,List.set_cons_zero,List.set_cons_succ])|go_big_quiet_step ((first | with_reducible exact quiet_below (hM2 _)|with_reducible exact quiet_below (hA1 _)))|quiet_step ((first | with_reducible exact quiet_below (hM2 _)|with_reducible exact quiet_below (hA1 _))))
 refine wpQuiet_nil ?_
 intro _ hw'
 obtain ⟨⟨d9,os⟩,hw''⟩:=hw'
 subst hw''
 have hbx:=below_regrown w2 d9 os
 generalize Go.Sort.grow (redrawn w2 d9) os=wx at *
 have hLx:=hL.nx hbx
 have k9x:Bk wx w1.heap.size 289 (wdA xp):=hLx.k 0 (by simp)
 show wpAny _ _ _ _ 3 _ _ _
 refine wpAny_ext (i:=7) _ _ _ _ _ rfl rfl rfl rfl rfl rfl (by kernel_rfl) (by kernel_rfl) (by kernel_rfl) (fun _ _ _ h=>h) ?_
 refine wpAny_ext (i:=8) _ _ _ _ _ rfl rfl rfl rfl rfl rfl (by kernel_rfl) (by kernel_rfl) (by kernel_rfl) (fun _ _ _ h=>h) ?_
 refine wpAny_tail 9 rfl (by kernel_rfl) ?_
 simp only [Act.put,List.setIfInBounds_toArray,List.set_cons_zero,List.set_cons_succ,List.drop_succ_cons,List.drop_zero,List.getElem_toArray,List.getElem_cons_succ,List.getElem_cons_zero]
 go_wp2_with (refine stWd rfl _ _ rfl k9x rfl rfl rfl ?_;intro w4 k9y hg4 hs4)
 have hL4:=hLx.set hg4 k9y (by omega) (by intro q hq;simp at hq;rcases hq with rfl|rfl <;> simp <;> omega)
 have k44:Bk w4 w.heap.size 284 (a3 x y z):=hL4.k 2 (by simp)
 simp only [Act.put]
 have q2:=fun (d:Nat) (os:Array Obj)=>cell_regrown (k44.cell3).2.2 d os
 refine wp_region_quiet_late 7 8 (by kernel_rfl) (by kernel_rfl) ?_
 simp only [List.take_succ_cons,List.take_zero]
 repeat (first | (refine wpQuiet_load rfl _ _ rfl k9y rfl Tryz.underlying289 rfl wd_size ?_;simp only [Act.put,List.setIfInBounds_toArray,List.set_cons_zero,List.set_cons_succ])|go_big_quiet_step ((first | with_reducible exact quiet_below (hM3 _)|with_reducible exact quiet_below (hA2 _)))|quiet_step ((first | with_reducible exact quiet_below (hM3 _)|with_reducible exact quiet_below (hA2 _))))
 refine wpQuiet_nil ?_
 intro _ hw'
 obtain ⟨⟨d9,os⟩,hw''⟩:=hw'
 subst hw''
 have hbx:=below_regrown w4 d9 os
 generalize Go.Sort.grow (redrawn w4 d9) os=wy at *
 have hLy:=hL4.nx hbx
 have k9yx:Bk wy w1.heap.size 289 (wdA xy):=hLy.k 0 (by simp)
 show wpAny _ _ _ _ 3 _ _ _
 refine wpAny_ext (i:=7) _ _ _ _ _ rfl rfl rfl rfl rfl rfl (by kernel_rfl) (by kernel_rfl) (by kernel_rfl) (fun _ _ _ h=>h) ?_
 refine wpAny_ext (i:=8) _ _ _ _ _ rfl rfl rfl rfl rfl rfl (by kernel_rfl) (by kernel_rfl) (by kernel_rfl) (fun _ _ _ h=>h) ?_
 refine wpAny_tail 9 rfl (by kernel_rfl) ?_
 simp only [Act.put,List.setIfInBounds_toArray,List.set_cons_zero,List.set_cons_succ,List.drop_succ_cons,List.drop_zero,List.getElem_toArray,List.getElem_cons_succ,List.getElem_cons_zero]
 have k8:Bk wy (w.heap.size+1) 289 #[.int .i64 0,.int .u64 0]:=hLy.k 1 (by simp)
 go_upto_region 4 with (refine stWd rfl _ _ rfl k9yx rfl rfl rfl ?_;intro w6 k9z hg6 hs6)
 have hL6:=hLy.set hg6 k9z (by omega) (by intro q hq;simp at hq;rcases hq with rfl|rfl <;> simp <;> omega)
 have k86:Bk w6 (w.heap.size+1) 289 #[.int .i64 0,.int .u64 0]:=hL6.k 1 (by simp)
 obtain ⟨e0,e1⟩:=k9z.cell2
 go_wp2_with (refine stWd rfl _ _ rfl k86 rfl rfl rfl ?_;intro w8 k88 hg8 hs8)
 refine bodyPost_ret (res_wd rfl k88 rfl) rfl ?_
 exact ⟨rfl,below_of_gb hL6.bel hg8 (by omega) hL6.sz⟩
end Go.Proofs.YtjbelhpgbcnlmaaGreat
end
section
set_option linter.unusedVariables false
namespace Go.Proofs.YtjbelhpgbcnlmaaGreat
open Go.RowKit
structure AdOk (a:Nat→Int):Prop where
 u:LnOk (a 0) (a 1) (a 2)
 v:LnOk (a 3) (a 4) (a 5)
 s:LnOk (a 6) (a 7) (a 8)
 b6:-137438953472≤a 6∧a 6≤137438953472
 b7:-137438953472≤a 7∧a 7≤137438953472
 b8:-562949953421312≤a 8∧a 8≤562949953421312
theorem CfOk.dif {l:List Int} (h:CfOk l) (i1 i2 i3 i4:Nat) (k:Int) (h1:i1<9) (h2:i2<9) (h3:i3<9) (h4:i4<9) (hk1:most i1*most i2≤k) (hk2:most i3*most i4≤k):-(2*k)≤cf l i1*cf l i2-cf l i3*cf l i4∧cf l i1*cf l i2-cf l i3*cf l i4≤2*k:=by
 have g1:=h.prod i1 i2 h1 h2 k hk1
 have g2:=h.prod i3 i4 h3 h4 k hk2
 omega
theorem adOk {l:List Int} (h:CfOk l):AdOk (adK (cf l) 9):=by
 have big:∀ i1 i2 i3 i4:Nat,i1<9→i2<9→i3<9→i4<9→most i1*most i2≤36028797018963968→most i3*most i4≤36028797018963968→-1152921504606846976≤cf l i1*cf l i2-cf l i3*cf l i4∧cf l i1*cf l i2-cf l i3*cf l i4≤1152921504606846976:=fun i1 i2 i3 i4 a b c d e f=>by
  have:=h.dif i1 i2 i3 i4 36028797018963968 a b c d e f
  omega
 have e0:=big 4 8 5 7 (by decide) (by decide) (by decide) (by decide) (by decide) (by decide)
 have e1:=big 7 2 8 1 (by decide) (by decide) (by decide) (by decide) (by decide) (by decide)
 have e2:=big 1 5 2 4 (by decide) (by decide) (by decide) (by decide) (by decide) (by decide)
 have e3:=big 5 6 3 8 (by decide) (by decide) (by decide) (by decide) (by decide) (by decide)
 have e4:=big 8 0 6 2 (by decide) (by decide) (by decide) (by decide) (by decide) (by decide)
 have e5:=big 2 3 0 5 (by decide) (by decide) (by decide) (by decide) (by decide) (by decide)
 have e6:=h.dif 3 7 4 6 68719476736 (by decide) (by decide) (by decide) (by decide) (by decide) (by decide)
 have e7:=h.dif 6 1 7 0 68719476736 (by decide) (by decide) (by decide) (by decide) (by decide) (by decide)
 have e8:=h.dif 0 4 1 3 281474976710656 (by decide) (by decide) (by decide) (by decide) (by decide) (by decide)
 rw [← ad_0] at e0
 rw [← ad_1] at e1
 rw [← ad_2] at e2
 rw [← ad_3] at e3
 rw [← ad_4] at e4
 rw [← ad_5] at e5
 rw [← ad_6] at e6
 rw [← ad_7] at e7
 rw [← ad_8] at e8
 exact ⟨⟨e0.1,e0.2,e1.1,e1.2,e2.1,e2.2⟩,⟨e3.1,e3.2,e4.1,e4.2,e5.1,e5.2⟩,⟨by omega,by omega,by omega,by omega,by omega,by omega⟩,by omega,by omega,by omega⟩
def undR (a:Nat→Int) (px py d:Int):Int:=if rightH px py d=true then a 6*px+a 7*py+a 8*d else 0
theorem und_bd {a:Nat→Int} {px py d:Int} (h:AdOk a) (hp:rightH px py d=true):(-144115188075855872≤a 6*px∧a 6*px≤144115188075855872)∧(-144115188075855872≤a 7*py∧a 7*py≤144115188075855872)∧(-9007199254740992≤a 8*d∧a 8*d≤9007199254740992):=by
 obtain ⟨⟨p0,p1⟩,⟨p2,p3⟩,p4,p5⟩:=rightH_iff.1 hp
 have h1:=mulbd h.b6.1 h.b6.2 p0 p1
 have h2:=mulbd h.b7.1 h.b7.2 p2 p3
 have h3:=mulbd h.b8.1 h.b8.2 (show -16≤d by omega) p5
 omega
set_option maxRecDepth 100000 in
set_option maxHeartbeats 4000000 in
theorem under_any (a:Nat→Int) (g:Nat) (px py d:Int) (w:World) (hK:Bk w g 295 (mA a)) (h:AdOk a) :
 Calls Tryz.prog 233 #[.pointer (some ⟨g,0,none⟩),.int .i64 px,.int .i64 py,.int .i64 d] w fun e w'=>e=.returned (.int .i64 (undR a px py d))∧Below w.heap.size w w':=by
 cases hp:rightH px py d
 ·have HR:Hid (undR a px py d=0):=by show _=_;unfold undR;rw [hp];rfl
  go_enter Tryz.func233,Tryz.ntmps233
  go_wp2_with (go_at_call 232;(with_reducible refine (hright_any _ _ _ _).mono ?_);rintro e w' ⟨rfl,rfl⟩;rw [hp])
  go_returns
  exact ⟨ret_int HR.out.symm,Below.refl _ _⟩
 ·have HR:Hid (undR a px py d=a 6*px+a 7*py+a 8*d):=by show _=_;unfold undR;rw [if_pos hp]
  obtain ⟨⟨b0,b1⟩,⟨b2,b3⟩,b4,b5⟩:=und_bd h hp
  have e1:IntKind.i64.wrap (a 6*px)=a 6*px:=IntWalk.i64_in _ ⟨by omega,by omega⟩
  have e2:IntKind.i64.wrap (a 7*py)=a 7*py:=IntWalk.i64_in _ ⟨by omega,by omega⟩
  have e3:IntKind.i64.wrap (a 8*d)=a 8*d:=IntWalk.i64_in _ ⟨by omega,by omega⟩
  have e4:IntKind.i64.wrap (a 6*px+a 7*py)=a 6*px+a 7*py:=IntWalk.i64_in _ ⟨by omega,by omega⟩
  have e5:IntKind.i64.wrap (a 6*px+a 7*py+a 8*d)=a 6*px+a 7*py+a 8*d:=IntWalk.i64_in _ ⟨by omega,by omega⟩
  clear h b0 b1 b2 b3 b4 b5
  obtain ⟨_,_,_,_,_,_,c6,c7,c8⟩:=hK.cell9
  go_enter Tryz.func233,Tryz.ntmps233
  go_wp2_with (go_at_call 232;(with_reducible refine (hright_any _ _ _ _).mono ?_);rintro e w' ⟨rfl,rfl⟩;rw [hp])
  go_quiet (fail)
  go_wp2
  go_returns
  exact ⟨ret_int HR.out.symm,below_drewN (Below.refl _ _) _⟩
theorem under_nil (px py d:Int) (w:World):Calls Tryz.prog 233 #[.pointer none,.int .i64 px,.int .i64 py,.int .i64 d] w fun e w'=>e=.returned (.int .i64 0)∧w=w':=by
 go_enter Tryz.func233,Tryz.ntmps233
 go_wp2_with fail
 go_returns
 exact ⟨rfl,rfl⟩
def mn4 (a b c d:Int):Int:=min (min (min a b) c) d
def mx4 (a b c d:Int):Int:=max (max (max a b) c) d
def mnK (a b c d:Int):Nat→Int
 | 0=>a
 | 1=>a
 | 2=>min a b
 | 3=>min (min a b) c
 | _=>mn4 a b c d
set_option maxRecDepth 100000 in
set_option maxHeartbeats 4000000 in
theorem min4_any (g:Nat) (a b c d:Int) (w:World) (hK:Bk w g 2 #[.int .i64 a,.int .i64 b,.int .i64 c,.int .i64 d]) :
 Calls Tryz.prog 288 #[.slice (some ⟨g,0,none⟩) 4 4] w fun e w'=>e=.returned (.int .i64 (mn4 a b c d))∧Below w.heap.size w w':=by
 obtain ⟨c0,c1,c2,c3⟩:=hK.cell4
 go_enter Tryz.func288,Tryz.ntmps288
 go_wp2_with fail
 go_loop [3,4] (fun mv kv=>∃ k:Nat,1≤k∧k≤4∧kv=.int .i64 k∧mv=.int .i64 (mnK a b c d k)) (fun _ kv=>4-(intOf kv).toNat)
 case atStart=>exact ⟨1,by omega,by omega,rfl,rfl⟩
 case round =>
  obtain ⟨k,hk1,hk,rfl,rfl⟩:=hrel
  by_cases hlt:k<4
  ·have h3:k=1∨k=2∨k=3:=by omega
   rcases h3 with rfl|rfl|rfl
   ·have HN:=Lib.hid (show mnK a b c d 2=min (mnK a b c d 1) b from rfl)
    generalize mnK a b c d 1=m at *
    go_wp2_with fail
    all_goals first
     | exact ⟨⟨2,by omega,by omega,rfl,val_int (by rw [HN.out];omega)⟩,by simp [intOf]⟩
     | exact ⟨⟨2,by omega,by omega,rfl,val_int (by rw [HN.out];split <;> omega)⟩,by simp [intOf]⟩
   ·have HN:=Lib.hid (show mnK a b c d 3=min (mnK a b c d 2) c from rfl)
    generalize mnK a b c d 2=m at *
    go_wp2_with fail
    all_goals first
     | exact ⟨⟨3,by omega,by omega,rfl,val_int (by rw [HN.out];omega)⟩,by simp [intOf]⟩
     | exact ⟨⟨3,by omega,by omega,rfl,val_int (by rw [HN.out];split <;> omega)⟩,by simp [intOf]⟩
   ·have HN:=Lib.hid (show mnK a b c d 4=min (mnK a b c d 3) d from rfl)
    generalize mnK a b c d 3=m at *
    go_wp2_with fail
    all_goals first
     | exact ⟨⟨4,by omega,by omega,rfl,val_int (by rw [HN.out];omega)⟩,by simp [intOf]⟩
     | exact ⟨⟨4,by omega,by omega,rfl,val_int (by rw [HN.out];split <;> omega)⟩,by simp [intOf]⟩
  ·obtain rfl:k=4:=by omega
   go_wp2_with fail
   go_returns
   exact ⟨rfl,Below.refl _ _⟩
def mxK (a b c d:Int):Nat→Int
 | 0=>a
 | 1=>a
 | 2=>max a b
 | 3=>max (max a b) c
 | _=>mx4 a b c d
set_option maxRecDepth 100000 in
set_option maxHeartbeats 4000000 in
theorem max4_any (g:Nat) (a b c d:Int) (w:World) (hK:Bk w g 2 #[.int .i64 a,.int .i64 b,.int .i64 c,.int .i64 d]) :
 Calls Tryz.prog 289 #[.slice (some ⟨g,0,none⟩) 4 4] w fun e w'=>e=.returned (.int .i64 (mx4 a b c d))∧Below w.heap.size w w':=by
 obtain ⟨c0,c1,c2,c3⟩:=hK.cell4
 go_enter Tryz.func289,Tryz.ntmps289
 go_wp2_with fail
 go_loop [3,4] (fun mv kv=>∃ k:Nat,1≤k∧k≤4∧kv=.int .i64 k∧mv=.int .i64 (mxK a b c d k)) (fun _ kv=>4-(intOf kv).toNat)
 case atStart=>exact ⟨1,by omega,by omega,rfl,rfl⟩
 case round =>
  obtain ⟨k,hk1,hk,rfl,rfl⟩:=hrel
  by_cases hlt:k<4
  ·have h3:k=1∨k=2∨k=3:=by omega
   rcases h3 with rfl|rfl|rfl
   ·have HN:=Lib.hid (show mxK a b c d 2=max (mxK a b c d 1) b from rfl)
    generalize mxK a b c d 1=m at *
    go_wp2_with fail
    all_goals first
     | exact ⟨⟨2,by omega,by omega,rfl,val_int (by rw [HN.out];omega)⟩,by simp [intOf]⟩
     | exact ⟨⟨2,by omega,by omega,rfl,val_int (by rw [HN.out];split <;> omega)⟩,by simp [intOf]⟩
   ·have HN:=Lib.hid (show mxK a b c d 3=max (mxK a b c d 2) c from rfl)
    generalize mxK a b c d 2=m at *
    go_wp2_with fail
    all_goals first
     | exact ⟨⟨3,by omega,by omega,rfl,val_int (by rw [HN.out];omega)⟩,by simp [intOf]⟩
     | exact ⟨⟨3,by omega,by omega,rfl,val_int (by rw [HN.out];split <;> omega)⟩,by simp [intOf]⟩
   ·have HN:=Lib.hid (show mxK a b c d 4=max (mxK a b c d 3) d from rfl)
    generalize mxK a b c d 3=m at *
    go_wp2_with fail
    all_goals first
     | exact ⟨⟨4,by omega,by omega,rfl,val_int (by rw [HN.out];omega)⟩,by simp [intOf]⟩
     | exact ⟨⟨4,by omega,by omega,rfl,val_int (by rw [HN.out];split <;> omega)⟩,by simp [intOf]⟩
  ·obtain rfl:k=4:=by omega
   go_wp2_with fail
   go_returns
   exact ⟨rfl,Below.refl _ _⟩
set_option maxRecDepth 100000 in
set_option maxHeartbeats 8000000 in
theorem signs_any (a:Nat→Int) (g:Nat) (W H:Int) (w:World) (hK:Bk w g 295 (mA a)) (h:AdOk a) (hW:1≤W∧W≤32768) (hH:1≤H∧H≤32768) :
 Calls Tryz.prog 231 #[.pointer (some ⟨g,0,none⟩),.int .i64 W,.int .i64 H] w fun e w' =>
  e=.returned (.bool (decide (0<mn4 (undR a (-1) (-1) 2) (undR a (2*W-1) (-1) 2) (undR a (-1) (2*H-1) 2) (undR a (2*W-1) (2*H-1) 2))||decide (mx4 (undR a (-1) (-1) 2) (undR a (2*W-1) (-1) 2) (undR a (-1) (2*H-1) 2) (undR a (2*W-1) (2*H-1) 2)<0)))∧Below w.heap.size w w':=by
 have hU1:=fun (w':World) (hb:Below w.heap.size w w')=>under_any a g (-1) (-1) 2 w' (hK.nx hb) h
 have hU2:=fun (w':World) (hb:Below w.heap.size w w')=>under_any a g (2*W-1) (-1) 2 w' (hK.nx hb) h
 have hU3:=fun (w':World) (hb:Below w.heap.size w w')=>under_any a g (-1) (2*H-1) 2 w' (hK.nx hb) h
 have hU4:=fun (w':World) (hb:Below w.heap.size w w')=>under_any a g (2*W-1) (2*H-1) 2 w' (hK.nx hb) h
 generalize undR a (-1) (-1) 2=p1 at *
 generalize undR a (2*W-1) (-1) 2=p2 at *
 generalize undR a (-1) (2*H-1) 2=p3 at *
 generalize undR a (2*W-1) (2*H-1) 2=p4 at *
 clear h
 have hb0:=Below.refl w.heap.size w
 go_enter Tryz.func231,Tryz.ntmps231
 go_wp2_with fail
 refine (hU1 _ hb0).mono ?_
 rintro e w1 ⟨rfl,hb1⟩
 go_wp2_with fail
 refine (hU2 _ hb1).mono ?_
 rintro e w2 ⟨rfl,hb2⟩
 replace hb2:=hb1.trans (hb2.mono hb1.size)
 go_wp2_with fail
 refine (hU3 _ hb2).mono ?_
 rintro e w3 ⟨rfl,hb3⟩
 replace hb3:=hb2.trans (hb3.mono hb2.size)
 go_wp2_with fail
 refine (hU4 _ hb3).mono ?_
 rintro e w4 ⟨rfl,hb4⟩
 replace hb4:=hb3.trans (hb4.mono hb3.size)
 clear hb1 hb2 hb3 hU1 hU2 hU3 hU4
 have kL:=Bk.new w4 2 #[.int .i64 p1,.int .i64 p2,.int .i64 p3,.int .i64 p4]
 have hb5:=hb4.alloc hb4.size (.cells #[.int .i64 p1,.int .i64 p2,.int .i64 p3,.int .i64 p4] 2)
 obtain ⟨mn,hmn⟩:∃ mn,Hid (mn4 p1 p2 p3 p4=mn):=⟨_,Lib.hid rfl⟩
 obtain ⟨mx,hmx⟩:∃ mx,Hid (mx4 p1 p2 p3 p4=mx):=⟨_,Lib.hid rfl⟩
 have hMin:=fun (w':World) (hk:Bk w' w4.heap.size 2 #[.int .i64 p1,.int .i64 p2,.int .i64 p3,.int .i64 p4])=>min4_any w4.heap.size p1 p2 p3 p4 w' hk
 have hMax:=fun (w':World) (hk:Bk w' w4.heap.size 2 #[.int .i64 p1,.int .i64 p2,.int .i64 p3,.int .i64 p4])=>max4_any w4.heap.size p1 p2 p3 p4 w' hk
 rw [hmn.out] at hMin
 rw [hmx.out] at hMax
 by_cases hp:0<mn
 all_goals
  go_wp2_with (first
   | (go_at_call 288;(with_reducible refine (hMin _ (by exact kL)).mono ?_);rintro e w6 ⟨rfl,hb6⟩;have kL6:=kL.nx hb6;have hb6':=hb5.trans (hb6.mono hb5.size))
   | (go_at_call 289;(with_reducible refine (hMax _ (by exact kL6)).mono ?_);rintro e w7 ⟨rfl,hb7⟩;have hb7':=hb6'.trans (hb7.mono hb6'.size)))
  go_returns
  rw [hmn.out,hmx.out]
  first
   | exact ⟨ret_bool (by rw [decide_eq_true hp];rfl),hb6'⟩
   | exact ⟨ret_bool (by rw [show decide (0<mn)=false from decide_eq_false (by omega)];first | done|rfl|simp),hb7'⟩
end Go.Proofs.YtjbelhpgbcnlmaaGreat
end
section
open Go.RowKit
set_option autoImplicit false
namespace Go.Proofs.YtjbelhpgbcnlmaaGreat
def sgH (a:Nat→Int) (W H:Int):Bool :=
 decide (0<mn4 (undR a (-1) (-1) 2) (undR a (2*W-1) (-1) 2) (undR a (-1) (2*H-1) 2) (undR a (2*W-1) (2*H-1) 2))||decide (mx4 (undR a (-1) (-1) 2) (undR a (2*W-1) (-1) 2) (undR a (-1) (2*H-1) 2) (undR a (2*W-1) (2*H-1) 2)<0)
def szH (W H:Int):Bool:=decide ((1≤W∧W≤32768)∧(1≤H∧H≤32768))
theorem szH_iff {W H:Int}:szH W H=true ↔ ((1≤W∧W≤32768)∧(1≤H∧H≤32768)):=by simp [szH]
def newC (l:List Int) (W H:Int):Int :=
 if rngC l≠0 then rngC l else if szH W H=false then 30 else if detS (cf l) 3=0 then 40 else if sgH (adK (cf l) 9) W H=false then 41 else 0
structure NwOk (l:List Int) (W H:Int):Prop where
 ok:CfOk l
 sz:(1≤W∧W≤32768)∧(1≤H∧H≤32768)
 dt:detS (cf l) 3≠0
 sg:sgH (adK (cf l) 9) W H=true
theorem rngC_zero {l:List Int}:rngC l=0 ↔ CfOk l:=by
 simp only [rngC]
 constructor
 ·intro h
  by_cases h1:l.length=9
  ·by_cases h2:rgB l=true
   ·exact ⟨h1,h2⟩
   ·simp [h1,h2] at h
  ·simp [h1] at h
 ·intro h
  simp [h.len,h.rg]
theorem newC_zero {l:List Int} {W H:Int}:newC l W H=0 ↔ NwOk l W H:=by
 simp only [newC]
 constructor
 ·intro h
  by_cases h1:rngC l=0
  ·by_cases h2:szH W H=true
   ·by_cases h3:detS (cf l) 3=0
    ·simp [h1,h2,h3] at h
    ·by_cases h4:sgH (adK (cf l) 9) W H=true
     ·exact ⟨rngC_zero.1 h1,szH_iff.1 h2,h3,h4⟩
     ·simp [h1,h2,h3,h4] at h
   ·simp [h1,h2] at h
  ·simp [h1] at h
 ·intro h
  rw [if_neg (by simp [rngC_zero.2 h.ok]),if_neg (by simp [szH_iff.2 h.sz]),if_neg h.dt,if_neg (by simp [h.sg])]
def NwR (l:List Int) (W H:Int) (w w':World) (p:Option Addr):Prop :=
 (newC l W H≠0→p=none)∧(newC l W H=0→∃ g,p=some ⟨g,0,none⟩∧w.heap.size≤g∧Bk w' g 295 (mA (adK (cf l) 9)))
set_option maxRecDepth 100000 in
set_option maxHeartbeats 8000000 in
theorem new_any (l:List Int) (A:Option Addr) (n cp:Nat) (W H:Int) (w:World) {B:Nat} (hl:l.length=n) (hr:Rd w B A (l.map (Value.int .i64))) (hB:B≤w.heap.size) (hcp:n≤cp) :
 Calls Tryz.prog 165 #[.slice A n cp,.int .i64 W,.int .i64 H] w fun e w'=>∃ p,e=.returned (.tuple #[.pointer p,.int .i64 (newC l W H)])∧NwR l W H w w' p∧Below w.heap.size w w':=by
 have hRg:=fun (w':World) (hb:Below w.heap.size w w')=>ranges_any l A n cp w' hl (hr.below' hb hB)
 have hb0:=Below.refl w.heap.size w
 by_cases h1:rngC l=0
 ·have hC:=rngC_zero.1 h1
  rw [h1] at hRg
  by_cases h2:szH W H=true
  ·have hz:=szH_iff.1 h2
   obtain rfl:n=9:=by rw [← hl];exact hC.len
   have hBk:=fun (w':World) (hb:Below w.heap.size w w')=>back_any l A cp w' hC (hr.below' hb hB) (Nat.le_trans hB hb.size) hcp
   have hSg:=fun (g:Nat) (w':World) (hk:Bk w' g 295 (mA (adK (cf l) 9)))=>signs_any (adK (cf l) 9) g W H w' hk (adOk hC) hz.1 hz.2
   by_cases h3:detS (cf l) 3=0
   ·have e4:newC l W H=40:=by simp [newC,h1,h2,h3]
    simp only [h3,ne_eq,not_true_eq_false,decide_false] at hBk
    simp only [NwR,e4]
    clear h3 e4 h1 h2
    go_enter Tryz.func165,Tryz.ntmps165
    go_wp2_with (first
     | (go_at_call 229;(with_reducible refine (hRg _ (by exact hb0)).mono ?_);rintro e w1 ⟨rfl,rfl⟩)
     | (go_at_call 230;(with_reducible refine (hBk _ (by exact hb0)).mono ?_);rintro e w1 ⟨g,rfl,hg,hKg,hb1⟩))
    go_returns
    exact ⟨none,rfl,⟨fun _=>rfl,fun h=>absurd h (by decide)⟩,hb1⟩
   ·have e4:newC l W H=if sgH (adK (cf l) 9) W H=false then 41 else 0:=by simp [newC,h1,h2,h3]
    simp only [h3,ne_eq,not_false_eq_true,decide_true] at hBk
    simp only [← sgH.eq_1] at hSg
    clear h3 h1 h2
    generalize sgH (adK (cf l) 9) W H=sb at *
    cases sb
    ·have e5:newC l W H=41:=e4
     simp only [NwR,e5]
     clear e4 e5
     go_enter Tryz.func165,Tryz.ntmps165
     go_wp2_with (first
      | (go_at_call 229;(with_reducible refine (hRg _ (by exact hb0)).mono ?_);rintro e w1 ⟨rfl,rfl⟩)
      | (go_at_call 230;(with_reducible refine (hBk _ (by exact hb0)).mono ?_);rintro e w1 ⟨g,rfl,hg,hKg,hb1⟩)
      | (go_at_call 231;(with_reducible refine (hSg g _ (by exact hKg)).mono ?_);rintro e w2 ⟨rfl,hb2⟩;have hb3:=hb1.trans (hb2.mono hb1.size)))
     go_returns
     exact ⟨none,rfl,⟨fun _=>rfl,fun h=>absurd h (by decide)⟩,hb3⟩
    ·have e5:newC l W H=0:=e4
     simp only [NwR,e5]
     clear e4 e5
     go_enter Tryz.func165,Tryz.ntmps165
     go_wp2_with (first
      | (go_at_call 229;(with_reducible refine (hRg _ (by exact hb0)).mono ?_);rintro e w1 ⟨rfl,rfl⟩)
      | (go_at_call 230;(with_reducible refine (hBk _ (by exact hb0)).mono ?_);rintro e w1 ⟨g,rfl,hg,hKg,hb1⟩)
      | (go_at_call 231;(with_reducible refine (hSg g _ (by exact hKg)).mono ?_);rintro e w2 ⟨rfl,hb2⟩;have hb3:=hb1.trans (hb2.mono hb1.size)))
     go_returns
     exact ⟨_,rfl,⟨fun h=>absurd rfl h,fun _=>⟨g,rfl,hg,hKg.nx hb2⟩⟩,hb3⟩
  ·have e4:newC l W H=30:=by simp [newC,h1,h2]
   have hn:¬((1≤W∧W≤32768)∧(1≤H∧H≤32768)):=fun h=>h2 (szH_iff.2 h)
   simp only [NwR,e4]
   clear e4 h1 h2
   have hW:=Classical.em (W<1)
   have hW':=Classical.em (W > 32768)
   have hH:=Classical.em (H<1)
   have hH':=Classical.em (H > 32768)
   rcases hW with hW|hW <;> rcases hW' with hW'|hW' <;> rcases hH with hH|hH <;> rcases hH' with hH'|hH' <;> first | (exfalso;omega;done)|skip
   all_goals
    clear hn
    go_enter Tryz.func165,Tryz.ntmps165
    go_wp2_with (first
     | (go_at_call 229;(with_reducible refine (hRg _ (by exact hb0)).mono ?_);rintro e w1 ⟨rfl,rfl⟩))
    go_returns
    exact ⟨none,rfl,⟨fun _=>rfl,fun h=>absurd h (by decide)⟩,hb0⟩
 ·have e4:newC l W H=rngC l:=by simp [newC,h1]
  simp only [NwR,e4]
  have hb:(rngC l != 0)=true:=by simp [h1]
  clear e4
  have hne:=Lib.hid h1
  clear h1
  generalize rngC l=rc at *
  go_enter Tryz.func165,Tryz.ntmps165
  go_wp2_with (first
   | (go_at_call 229;(with_reducible refine (hRg _ (by exact hb0)).mono ?_);rintro e w1 ⟨rfl,rfl⟩))
  go_returns
  exact ⟨none,rfl,⟨fun _=>rfl,fun h=>absurd h hne.out⟩,hb0⟩
end Go.Proofs.YtjbelhpgbcnlmaaGreat
end
section
set_option linter.unusedVariables false
namespace Go.Proofs.YtjbelhpgbcnlmaaGreat
open Go.RowKit
def atX (a:Nat→Int) (x y d:Int):Int:=if rightH x y d=true∧undR a x y d≠0 then plc (smR (a 0) (a 1) (a 2) x y d) (undR a x y d) else 0
def atY (a:Nat→Int) (x y d:Int):Int:=if rightH x y d=true∧undR a x y d≠0 then plc (smR (a 3) (a 4) (a 5) x y d) (undR a x y d) else 0
def atE (a:Nat→Int) (x y d:Int):Int:=if rightH x y d=true then if undR a x y d≠0 then 0 else 41 else 11
theorem sm_wq {x y z px py d:Int} (h:LnOk x y z) (hp:rightH px py d=true):Wq (smR x y z px py d*65536):=by
 obtain ⟨b0,b1,b2,b3,b4,b5,_⟩:=sum_bd h hp
 unfold Wq smR
 omega
theorem und_j64 {a:Nat→Int} {px py d:Int} (h:AdOk a):J64 (undR a px py d):=by
 unfold undR J64
 split
 ·rename_i hp
  obtain ⟨⟨b0,b1⟩,⟨b2,b3⟩,b4,b5⟩:=und_bd h hp
  omega
 ·omega
set_option maxRecDepth 100000 in
set_option maxHeartbeats 8000000 in
theorem at_nil (x y d:Int) (w:World):Calls Tryz.prog 166 #[.pointer none,.int .i64 x,.int .i64 y,.int .i64 d] w fun e w' =>
 e=.returned (.tuple #[.int .i64 0,.int .i64 0,.int .i64 10])∧w=w':=by
 go_enter Tryz.func166,Tryz.ntmps166
 go_wp2_with fail
 go_returns
 exact ⟨rfl,rfl⟩
set_option maxRecDepth 100000 in
set_option maxHeartbeats 8000000 in
theorem hat_any (a:Nat→Int) (g:Nat) (x y d:Int) (w:World) (hK:Bk w g 295 (mA a)) (h:AdOk a) :
 Calls Tryz.prog 166 #[.pointer (some ⟨g,0,none⟩),.int .i64 x,.int .i64 y,.int .i64 d] w fun e w' =>
  e=.returned (.tuple #[.int .i64 (atX a x y d),.int .i64 (atY a x y d),.int .i64 (atE a x y d)])∧Below w.heap.size w w':=by
 have hb0:=Below.refl w.heap.size w
 have hR:=fun w'=>hright_any x y d w'
 cases hp:rightH x y d
 ·have E1:atX a x y d=0:=by simp [atX,hp]
  have E2:atY a x y d=0:=by simp [atY,hp]
  have E3:atE a x y d=11:=by simp [atE,hp]
  rw [E1,E2,E3]
  clear E1 E2 E3
  rw [hp] at hR
  clear hp
  go_enter Tryz.func166,Tryz.ntmps166
  go_wp2_with (first | (go_at_call 232;(with_reducible refine (hR _).mono ?_);rintro e w1 ⟨rfl,rfl⟩))
  go_returns
  exact ⟨rfl,hb0⟩
 ·have hU:=fun (w':World) (hk:Bk w' g 295 (mA a))=>under_any a g x y d w' hk h
  have hS1:=fun w'=>hsum_any (a 0) (a 1) (a 2) x y d w' h.u hp
  have hS2:=fun w'=>hsum_any (a 3) (a 4) (a 5) x y d w' h.v hp
  have hj:=und_j64 (px:=x) (py:=y) (d:=d) h
  have q1:=sm_wq h.u hp
  have q2:=sm_wq h.v hp
  by_cases hu:undR a x y d=0
  ·have E1:atX a x y d=0:=by simp [atX,hu]
   have E2:atY a x y d=0:=by simp [atY,hu]
   have E3:atE a x y d=41:=by simp [atE,hp,hu]
   rw [E1,E2,E3]
   clear E1 E2 E3
   rw [hp] at hR
   rw [hu] at hU
   clear hp hu hj q1 q2
   generalize smR (a 0) (a 1) (a 2) x y d=s1 at *
   generalize smR (a 3) (a 4) (a 5) x y d=s2 at *
   have hP1:=fun w'=>qplace_0 s1 w'
   have hP2:=fun w'=>qplace_0 s2 w'
   go_enter Tryz.func166,Tryz.ntmps166
   go_wp2_with (first | (go_at_call 232;(with_reducible refine (hR _).mono ?_);rintro e w1 ⟨rfl,rfl⟩))
   refine (hU _ hK).mono ?_
   rintro e w2 ⟨rfl,hb2⟩
   replace hK:=hK.nx hb2
   obtain ⟨c0,c1,c2,c3,c4,c5,c6,c7,c8⟩:=hK.cell9
   go_wp2_with fail
   refine (hS1 _).mono ?_
   rintro e w3 ⟨rfl,hb3⟩
   replace hK:=hK.nx hb3
   replace hb3:=hb2.trans (hb3.mono hb2.size)
   clear c0 c1 c2 c3 c4 c5 c6 c7 c8 hb2
   go_wp2_with fail
   refine (hP1 _).mono ?_
   rintro e w4 ⟨rfl,hb4⟩
   replace hK:=hK.nx hb4
   replace hb4:=hb3.trans (hb4.mono hb3.size)
   clear hb3
   obtain ⟨c0,c1,c2,c3,c4,c5,c6,c7,c8⟩:=hK.cell9
   go_wp2_with fail
   refine (hS2 _).mono ?_
   rintro e w5 ⟨rfl,hb5⟩
   replace hb5:=hb4.trans (hb5.mono hb4.size)
   clear c0 c1 c2 c3 c4 c5 c6 c7 c8 hb4
   go_wp2_with fail
   refine (hP2 _).mono ?_
   rintro e w6 ⟨rfl,hb6⟩
   replace hb6:=hb5.trans (hb6.mono hb5.size)
   go_wp2_with fail
   go_returns
   exact ⟨rfl,hb6⟩
  ·have E1:atX a x y d=plc (smR (a 0) (a 1) (a 2) x y d) (undR a x y d):=by simp [atX,hp,hu]
   have E2:atY a x y d=plc (smR (a 3) (a 4) (a 5) x y d) (undR a x y d):=by simp [atY,hp,hu]
   have E3:atE a x y d=0:=by simp [atE,hp,hu]
   rw [E1,E2,E3]
   clear E1 E2 E3
   rw [hp] at hR
   have hP1:=fun w'=>qplace_any (smR (a 0) (a 1) (a 2) x y d) (undR a x y d) w' q1 hu hj
   have hP2:=fun w'=>qplace_any (smR (a 3) (a 4) (a 5) x y d) (undR a x y d) w' q2 hu hj
   clear hp hu hj q1 q2
   generalize plc (smR (a 0) (a 1) (a 2) x y d) (undR a x y d)=p1 at *
   generalize plc (smR (a 3) (a 4) (a 5) x y d) (undR a x y d)=p2 at *
   generalize smR (a 0) (a 1) (a 2) x y d=s1 at *
   generalize smR (a 3) (a 4) (a 5) x y d=s2 at *
   generalize undR a x y d=u at *
   go_enter Tryz.func166,Tryz.ntmps166
   go_wp2_with (first | (go_at_call 232;(with_reducible refine (hR _).mono ?_);rintro e w1 ⟨rfl,rfl⟩))
   refine (hU _ hK).mono ?_
   rintro e w2 ⟨rfl,hb2⟩
   replace hK:=hK.nx hb2
   obtain ⟨c0,c1,c2,c3,c4,c5,c6,c7,c8⟩:=hK.cell9
   go_wp2_with fail
   refine (hS1 _).mono ?_
   rintro e w3 ⟨rfl,hb3⟩
   replace hK:=hK.nx hb3
   replace hb3:=hb2.trans (hb3.mono hb2.size)
   clear c0 c1 c2 c3 c4 c5 c6 c7 c8 hb2
   go_wp2_with fail
   refine (hP1 _).mono ?_
   rintro e w4 ⟨rfl,hb4⟩
   replace hK:=hK.nx hb4
   replace hb4:=hb3.trans (hb4.mono hb3.size)
   clear hb3
   obtain ⟨c0,c1,c2,c3,c4,c5,c6,c7,c8⟩:=hK.cell9
   go_wp2_with fail
   refine (hS2 _).mono ?_
   rintro e w5 ⟨rfl,hb5⟩
   replace hb5:=hb4.trans (hb5.mono hb4.size)
   clear c0 c1 c2 c3 c4 c5 c6 c7 c8 hb4
   go_wp2_with fail
   refine (hP2 _).mono ?_
   rintro e w6 ⟨rfl,hb6⟩
   replace hb6:=hb5.trans (hb6.mono hb5.size)
   go_wp2_with fail
   go_returns
   exact ⟨rfl,hb6⟩
end Go.Proofs.YtjbelhpgbcnlmaaGreat
end
end
