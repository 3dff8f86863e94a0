/- Several texts in one: level.Reach and Of, and the reference's Reach, over what a map answers. The reference's Reach of chapter 32. SamplePixels: the reference's pixel. SamplePixels: the reference's pixel, many places. -/
import Derived.Test.YtjbelhpgbcnlmaaGreatSamplePixelsZz16
import Derived.Test.YtjbelhpgbcnlmaaGreatSamplePixelsZz13
import Derived.Test.YtjbelhpgbcnlmaaGreatSamplePixelsZz19
import Derived.Test.YtjbelhpgbcnlmaaGreatSamplePixelsZz22
import Derived.BigRegion
import Derived.RegionTactic
section
set_option linter.unusedVariables false
namespace Go.Proofs.YtjbelhpgbcnlmaaGreat
open Go.RowKit
theorem run_maxL {P:Program} {w:World} (ts:Array TypeId) (t:TypeId) (k k':IntKind) (x y:Int):(Builtin.max_ ts t #[.int k x,.int k' y]).run P w=.ok (.int k (max x y)) w:=by
 rw [run_max_int2]
 congr 2
 split <;> omega
attribute [local go_sem high] run_maxL
def apD (a b:Int):Int:=max (a-b) (b-a)
def apZ (F G:Int→Int→Int→Int) (x y s t:Int):Int:=max (apD (F x y 1) (F s t 1)) (apD (G x y 1) (G s t 1))
def bsd (a n:Int):Int:=if a+1<n then 1 else if 0<a then -1 else 0
def rchZ (F G:Int→Int→Int→Int) (W H x y:Int):Int:=max (apZ F G x y (x+bsd x W) y) (apZ F G x y x (y+bsd y H))
def I46 (a:Int):Prop:=-70368744177664≤a∧a≤70368744177664
theorem apD_self (a:Int):apD a a=0:=by unfold apD;omega
theorem apD_nn (a b:Int):0≤apD a b:=by unfold apD;omega
theorem apZ_self (F G:Int→Int→Int→Int) (x y:Int):apZ F G x y x y=0:=by unfold apZ;rw [apD_self,apD_self];rfl
theorem apZ_nn (F G:Int→Int→Int→Int) (x y s t:Int):0≤apZ F G x y s t:=by
 have:=apD_nn (F x y 1) (F s t 1)
 unfold apZ;omega
theorem lap_any (a b:Int) (w:World) (ha:I46 a) (hb:I46 b):Calls Tryz.prog 254 #[.int .i64 a,.int .i64 b] w fun e w'=>e=.returned (.int .i64 (apD a b))∧w=w':=by
 obtain ⟨a0,a1⟩:=ha
 obtain ⟨b0,b1⟩:=hb
 go_enter Tryz.func254,Tryz.ntmps254
 go_wp2_with fail
 go_returns
 exact ⟨rfl,rfl⟩
theorem rap_any (a b:Int) (w:World) (ha:I46 a) (hb:I46 b):Calls Tryz.prog 112 #[.int .i64 a,.int .i64 b] w fun e w'=>e=.returned (.int .i64 (apD a b))∧w=w':=by
 obtain ⟨a0,a1⟩:=ha
 obtain ⟨b0,b1⟩:=hb
 go_enter Tryz.func112,Tryz.ntmps112
 go_wp2_with fail
 go_returns
 exact ⟨rfl,rfl⟩
theorem bsd_any (a n:Int) (w:World) (ha:-1≤a∧a≤32768):Calls Tryz.prog 177 #[.int .i64 a,.int .i64 n] w fun e w'=>e=.returned (.int .i64 (bsd a n))∧w=w':=by
 unfold bsd
 by_cases h1:a+1<n
 ·rw [if_pos h1]
  go_enter Tryz.func177,Tryz.ntmps177
  go_wp2_with fail
  go_returns
  exact ⟨rfl,rfl⟩
 ·rw [if_neg h1]
  by_cases h2:0<a
  ·rw [if_pos h2]
   go_enter Tryz.func177,Tryz.ntmps177
   go_wp2_with fail
   go_returns
   exact ⟨rfl,rfl⟩
  ·rw [if_neg h2]
   go_enter Tryz.func177,Tryz.ntmps177
   go_wp2_with fail
   go_returns
   exact ⟨rfl,rfl⟩
set_option maxRecDepth 100000 in
set_option maxHeartbeats 8000000 in
theorem lfrom_any (p:Option Addr) (x y dx dy:Int) (F G E:Int→Int→Int→Int) (w:World) (hx:0≤x∧x≤32768) (hy:0≤y∧y≤32768) (hdx:-1≤dx∧dx≤1) (hdy:-1≤dy∧dy≤1)
 (h1:I46 (F x y 1)) (h2:I46 (G x y 1)) (h3:I46 (F (x+dx) (y+dy) 1)) (h4:I46 (G (x+dx) (y+dy) 1))
 (hA:∀ (a b:Int) (w':World),Below w.heap.size w w'→Calls Tryz.prog 48 #[.pointer p,.int .i64 a,.int .i64 b,.int .i64 1] w' fun e w''=>e=.returned (.tuple #[.int .i64 (F a b 1),.int .i64 (G a b 1),.int .i64 (E a b 1)])∧Below w'.heap.size w' w'') :
 Calls Tryz.prog 176 #[.agg #[.pointer p,.int .i64 x,.int .i64 y],.int .i64 dx,.int .i64 dy] w fun e w'=>e=.returned (.int .i64 (apZ F G x y (x+dx) (y+dy)))∧Below w.heap.size w w':=by
 have hL:=(Lie.start w).alloc #[.pointer p,.int .i64 x,.int .i64 y] 242
 have hA1:=hA x y
 have hA2:=hA (x+dx) (y+dy)
 have hv1:=fun w'=>lap_any (F x y 1) (F (x+dx) (y+dy) 1) w' h1 h3
 have hv2:=fun w'=>lap_any (G x y 1) (G (x+dx) (y+dy) 1) w' h2 h4
 have HZ:Hid (max (apD (F x y 1) (F (x+dx) (y+dy) 1)) (apD (G x y 1) (G (x+dx) (y+dy) 1))=apZ F G x y (x+dx) (y+dy)):=rfl
 clear hA h1 h2 h3 h4
 generalize F x y 1=f1 at hA1 hv1 HZ
 generalize G x y 1=g1 at hA1 hv2 HZ
 generalize E x y 1=e1 at *
 generalize F (x+dx) (y+dy) 1=f2 at hA2 hv1 HZ
 generalize G (x+dx) (y+dy) 1=g2 at hA2 hv2 HZ
 generalize E (x+dx) (y+dy) 1=e2 at *
 generalize apD f1 f2=u at *
 generalize apD g1 g2=v at *
 go_enter Tryz.func176,Tryz.ntmps176
 go_wp2_with (first
  | (go_at_call 48;(with_reducible refine (hA1 _ hL.bel).mono ?_);rintro e w1 ⟨rfl,hb1⟩;have hL1:=hL.nx hb1;have hks:w1.cell? ⟨w.heap.size,0,none⟩=some (.pointer p)∧w1.cell? ⟨w.heap.size,1,none⟩=some (.int .i64 x)∧w1.cell? ⟨w.heap.size,2,none⟩=some (.int .i64 y):=(hL1.k 0 (by simp)).cell3;obtain ⟨t0,t1,t2⟩:=hks;clear hb1)
  | (go_at_call 48;(with_reducible refine (hA2 _ hL1.bel).mono ?_);rintro e w2 ⟨rfl,hb2⟩)
  | (go_at_call 254;(with_reducible refine (hv1 _).mono ?_);rintro e w' ⟨rfl,rfl⟩)
  | (go_at_call 254;(with_reducible refine (hv2 _).mono ?_);rintro e w' ⟨rfl,rfl⟩))
 go_returns
 exact ⟨by rw [HZ.out];rfl,(hL1.nx hb2).bel⟩
set_option maxRecDepth 100000 in
set_option maxHeartbeats 8000000 in
theorem reach_nil (x y:Int) (w:World):Calls Tryz.prog 95 #[.pointer none,.int .i64 x,.int .i64 y] w fun e w'=>e=.returned (.tuple #[.int .i64 0,.int .i64 10])∧w=w':=by
 have hS:=fun w'=>xsize_nil w'
 go_enter Tryz.func95,Tryz.ntmps95
 go_wp2_with (first
  | (go_at_call 175;(with_reducible refine (hS _).mono ?_);rintro e w1 ⟨rfl,rfl⟩))
 go_returns
 exact ⟨rfl,rfl⟩
theorem out_cases {x y W H:Int} (h:¬((0≤x∧x<W)∧(0≤y∧y<H))):x<0∨(0≤x∧W≤x)∨(0≤x∧x<W∧y<0)∨(0≤x∧x<W∧0≤y∧H≤y):=by omega
set_option maxRecDepth 100000 in
set_option maxHeartbeats 8000000 in
theorem reach_out (k W H x y:Int) (v:Value) (q:Nat) (w:World) (hK:Bk w q 100 #[.int .i64 k,.int .i64 W,.int .i64 H,v]) (h:¬((0≤x∧x<W)∧(0≤y∧y<H))) :
 Calls Tryz.prog 95 #[.pointer (some ⟨q,0,none⟩),.int .i64 x,.int .i64 y] w fun e w'=>e=.returned (.tuple #[.int .i64 0,.int .i64 11])∧Below w.heap.size w w':=by
 have hS:=xsize_at k W H v q w hK
 clear hK
 rcases out_cases h with h0|⟨h0,h1⟩|⟨h0,h1,h2⟩|⟨h0,h1,h2,h3⟩
 all_goals
  clear h
  go_enter Tryz.func95,Tryz.ntmps95
  go_wp2_with (first
   | (go_at_call 175;(with_reducible refine hS.mono ?_);rintro e w1 ⟨rfl,hb1⟩))
  go_returns
  exact ⟨rfl,hb1⟩
set_option maxRecDepth 100000 in
set_option maxHeartbeats 8000000 in
theorem reach_in (k W H x y:Int) (v:Value) (q:Nat) (F G E:Int→Int→Int→Int) (w:World) (hK:Bk w q 100 #[.int .i64 k,.int .i64 W,.int .i64 H,v])
 (hW:W≤32768) (hH:H≤32768) (hx:0≤x∧x<W) (hy:0≤y∧y<H) (hF:∀ a b:Int,0≤a→a<W→0≤b→b<H→I46 (F a b 1)∧I46 (G a b 1))
 (hA:∀ (a b:Int) (w':World),Below w.heap.size w w'→Calls Tryz.prog 48 #[.pointer (some ⟨q,0,none⟩),.int .i64 a,.int .i64 b,.int .i64 1] w' fun e w''=>e=.returned (.tuple #[.int .i64 (F a b 1),.int .i64 (G a b 1),.int .i64 (E a b 1)])∧Below w'.heap.size w' w'') :
 Calls Tryz.prog 95 #[.pointer (some ⟨q,0,none⟩),.int .i64 x,.int .i64 y] w fun e w'=>e=.returned (.tuple #[.int .i64 (rchZ F G W H x y),.int .i64 0])∧Below w.heap.size w w':=by
 have hS:=xsize_at k W H v q w hK
 have b1:(-1≤bsd x W∧bsd x W≤1)∧0≤x+bsd x W∧x+bsd x W<W:=by unfold bsd;split <;> (try split) <;> omega
 have b2:(-1≤bsd y H∧bsd y H≤1)∧0≤y+bsd y H∧y+bsd y H<H:=by unfold bsd;split <;> (try split) <;> omega
 obtain ⟨f0,g0⟩:=hF x y hx.1 hx.2 hy.1 hy.2
 obtain ⟨f1,g1⟩:=hF (x+bsd x W) y b1.2.1 b1.2.2 hy.1 hy.2
 obtain ⟨f2,g2⟩:=hF x (y+bsd y H) hx.1 hx.2 b2.2.1 b2.2.2
 have hB1:=fun w'=>bsd_any x W w' (by omega)
 have hB2:=fun w'=>bsd_any y H w' (by omega)
 have hR1:=fun (w':World) (hb:Below w.heap.size w w')=>lfrom_any (some ⟨q,0,none⟩) x y (bsd x W) 0 F G E w' (by omega) (by omega) b1.1 (by omega) f0 g0 (by rw [Int.add_zero];exact f1) (by rw [Int.add_zero];exact g1) (fun a b w'' hb'=>hA a b w'' (hb.trans (hb'.mono hb.size)))
 have hR2:=fun (w':World) (hb:Below w.heap.size w w')=>lfrom_any (some ⟨q,0,none⟩) x y 0 (bsd y H) F G E w' (by omega) (by omega) (by omega) b2.1 f0 g0 (by rw [Int.add_zero];exact f2) (by rw [Int.add_zero];exact g2) (fun a b w'' hb'=>hA a b w'' (hb.trans (hb'.mono hb.size)))
 rw [Int.add_zero] at hR1 hR2
 have HZ:Hid (max (apZ F G x y (x+bsd x W) y) (apZ F G x y x (y+bsd y H))=rchZ F G W H x y):=rfl
 clear f0 f1 f2 g0 g1 g2 hF hA b1 b2 hK
 generalize bsd x W=s1 at *
 generalize bsd y H=s2 at *
 generalize apZ F G x y (x+s1) y=a1 at *
 generalize apZ F G x y x (y+s2)=a2 at *
 obtain ⟨x0,x1⟩:=hx
 obtain ⟨y0,y1⟩:=hy
 go_enter Tryz.func95,Tryz.ntmps95
 go_wp2_with (first
  | (go_at_call 175;(with_reducible refine hS.mono ?_);rintro e w1 ⟨rfl,hb1⟩)
  | (go_at_call 177;(with_reducible refine (hB1 _).mono ?_);rintro e w' ⟨rfl,rfl⟩)
  | (go_at_call 177;(with_reducible refine (hB2 _).mono ?_);rintro e w' ⟨rfl,rfl⟩)
  | (go_at_call 176;(with_reducible refine (hR1 _ (by exact hb1)).mono ?_);rintro e w2 ⟨rfl,hb2⟩;have hb12:=hb1.trans (hb2.mono hb1.size))
  | (go_at_call 176;(with_reducible refine (hR2 _ (by exact hb12)).mono ?_);rintro e w3 ⟨rfl,hb3⟩;have hb13:=hb12.trans (hb3.mono hb12.size)))
 go_returns
 exact ⟨by rw [HZ.out];rfl,hb13⟩
end Go.Proofs.YtjbelhpgbcnlmaaGreat
end
section
set_option linter.unusedVariables false
namespace Go.Proofs.YtjbelhpgbcnlmaaGreat
open Go.RowKit
attribute [local go_sem high] run_maxL
theorem xf_sizeS:(Tryz.prog.info? 32).map (·.size)=some 2:=by kernel_rfl
def rstep (F G:Int→Int→Int→Int) (W H x y:Int):Nat→Int
 | 0=>0
 | 1=>apZ F G x y (x+bsd x W) y
 | _=>rchZ F G W H x y
set_option maxRecDepth 100000 in
set_option maxHeartbeats 16000000 in
theorem rreach_in (k W H x y:Int) (A:Option Addr) (n cp:Nat) (F G E:Int→Int→Int→Int) (w:World)
 (hW:W≤32768) (hH:H≤32768) (hx:0≤x∧x<W) (hy:0≤y∧y<H) (hF:∀ a b:Int,0≤a→a<W→0≤b→b<H→I46 (F a b 1)∧I46 (G a b 1))
 (hA:∀ (a b:Int) (w':World),Below w.heap.size w w'→Calls Tryz.prog 59 #[xfV k A n cp,.int .i64 a,.int .i64 b,.int .i64 1] w' fun e w''=>e=.returned (.tuple #[.int .i64 (F a b 1),.int .i64 (G a b 1),.int .i64 (E a b 1)])∧Below w'.heap.size w' w'') :
 Calls Tryz.prog 58 #[xfV k A n cp,.int .i64 W,.int .i64 H,.int .i64 x,.int .i64 y] w fun e w'=>e=.returned (.int .i64 (rchZ F G W H x y))∧Below w.heap.size w w':=by
 have hL:=(Lie.start w).alloc #[.int .i64 k,.slice A n cp] 32
 have b1:(-1≤bsd x W∧bsd x W≤1)∧0≤x+bsd x W∧x+bsd x W<W:=by unfold bsd;split <;> (try split) <;> omega
 have b2:(-1≤bsd y H∧bsd y H≤1)∧0≤y+bsd y H∧y+bsd y H<H:=by unfold bsd;split <;> (try split) <;> omega
 obtain ⟨f0,g0⟩:=hF x y hx.1 hx.2 hy.1 hy.2
 obtain ⟨f1,g1⟩:=hF (x+bsd x W) y b1.2.1 b1.2.2 hy.1 hy.2
 obtain ⟨f2,g2⟩:=hF x (y+bsd y H) hx.1 hx.2 b2.2.1 b2.2.2
 have hA0:=hA x y
 have hA1:=hA (x+bsd x W) y
 have hA2:=hA x (y+bsd y H)
 have v1:=fun w'=>rap_any _ _ w' f0 f1
 have v2:=fun w'=>rap_any _ _ w' g0 g1
 have v3:=fun w'=>rap_any _ _ w' f0 f2
 have v4:=fun w'=>rap_any _ _ w' g0 g2
 have HZ1:Hid (max 0 (max (apD (F x y 1) (F (x+bsd x W) y 1)) (apD (G x y 1) (G (x+bsd x W) y 1)))=apZ F G x y (x+bsd x W) y):=by
  have:=apZ_nn F G x y (x+bsd x W) y
  show _=_;unfold apZ at *;omega
 have HZ2:Hid (max (apZ F G x y (x+bsd x W) y) (max (apD (F x y 1) (F x (y+bsd y H) 1)) (apD (G x y 1) (G x (y+bsd y H) 1)))=rchZ F G W H x y):=rfl
 have HS1:Hid (bsd x W=0→apZ F G x y (x+bsd x W) y=0):=fun h=>by rw [h,Int.add_zero,apZ_self]
 have HS2:Hid (bsd y H=0→rchZ F G W H x y=apZ F G x y (x+bsd x W) y):=fun h=>by
  have:=apZ_nn F G x y (x+bsd x W) y
  show max _ _=_
  rw [h,Int.add_zero,apZ_self];omega
 clear f0 g0 f1 g1 f2 g2 hF hA b1 b2
 obtain ⟨x0,x1⟩:=hx
 obtain ⟨y0,y1⟩:=hy
 go_enter Tryz.func58,Tryz.ntmps58
 go_wp2_with fail
 go_loopw [11,12] (fun o i wr=>∃ j:Nat,j≤2∧i=.int .i64 j∧o=.int .i64 (rstep F G W H x y j)∧Lie w [(w.heap.size,32,#[.int .i64 k,.slice A n cp])] wr) (fun _ i _=>2-(intOf i).toNat)
 case atStart=>exact ⟨0,by omega,rfl,rfl,hL⟩
 case round =>
  clear hL
  obtain ⟨j,hj,rfl,rfl,hL⟩:=hrel
  rcases (show j=0∨j=1∨j=2 by omega) with rfl|rfl|rfl
  ·simp only [rstep]
   by_cases h1:x+1<W
   ·have eb:bsd x W=1:=by unfold bsd;rw [if_pos h1]
    have HE:Hid (apZ F G x y (x+bsd x W) y=apZ F G x y (x+1) y):=by show _=_;rw [eb]
    rw [eb] at hA1 v1 v2 HZ1
    have kx:=hL.k 0 (by simp)
    simp only [List.getElem_cons_zero] at kx
    clear eb HS1 HS2
    clear hA2 v3 v4 HZ2
    generalize F (x+1) y 1=p1 at *
    generalize G (x+1) y 1=p2 at *
    generalize E (x+1) y 1=p3 at *
    generalize F x y 1=q1 at *
    generalize G x y 1=q2 at *
    generalize E x y 1=q3 at *
    generalize apD q1 p1=d1 at *
    generalize apD q2 p2=d2 at *
    go_wp2_with (first
     | (refine ldB rfl _ _ rfl kx rfl Tryz.underlying32 rfl xf_sizeS ?_)
     | (go_at_call 59;(with_reducible refine (hA0 _ hL.bel).mono ?_);rintro e w1 ⟨rfl,hb1⟩;have hL1:=hL.nx hb1;have kx1:Bk w1 w.heap.size 32 #[.int .i64 k,.slice A n cp]:=hL1.k 0 (by simp))
     | (refine ldB rfl _ _ rfl kx1 rfl Tryz.underlying32 rfl xf_sizeS ?_)
     | (go_at_call 59;(with_reducible refine (hA1 _ hL1.bel).mono ?_);rintro e w2 ⟨rfl,hb2⟩)
     | (go_at_call 112;(with_reducible refine (v1 _).mono ?_);rintro e w' ⟨rfl,rfl⟩)
     | (go_at_call 112;(with_reducible refine (v2 _).mono ?_);rintro e w' ⟨rfl,rfl⟩))
    exact ⟨⟨1,by omega,by go_num,by show _=Value.int .i64 (apZ F G x y (x+bsd x W) y);rw [HE.out,HZ1.out],hL1.nx hb2⟩,by simp [intOf]⟩
   by_cases h2:0<x
   ·have eb:bsd x W=-1:=by unfold bsd;rw [if_neg h1,if_pos h2]
    have HE:Hid (apZ F G x y (x+bsd x W) y=apZ F G x y (x+-1) y):=by show _=_;rw [eb]
    rw [eb] at hA1 v1 v2 HZ1
    have kx:=hL.k 0 (by simp)
    simp only [List.getElem_cons_zero] at kx
    clear eb HS1 HS2
    clear hA2 v3 v4 HZ2
    generalize F (x+-1) y 1=p1 at *
    generalize G (x+-1) y 1=p2 at *
    generalize E (x+-1) y 1=p3 at *
    generalize F x y 1=q1 at *
    generalize G x y 1=q2 at *
    generalize E x y 1=q3 at *
    generalize apD q1 p1=d1 at *
    generalize apD q2 p2=d2 at *
    go_wp2_with (first
     | (refine ldB rfl _ _ rfl kx rfl Tryz.underlying32 rfl xf_sizeS ?_)
     | (go_at_call 59;(with_reducible refine (hA0 _ hL.bel).mono ?_);rintro e w1 ⟨rfl,hb1⟩;have hL1:=hL.nx hb1;have kx1:Bk w1 w.heap.size 32 #[.int .i64 k,.slice A n cp]:=hL1.k 0 (by simp))
     | (refine ldB rfl _ _ rfl kx1 rfl Tryz.underlying32 rfl xf_sizeS ?_)
     | (go_at_call 59;(with_reducible refine (hA1 _ hL1.bel).mono ?_);rintro e w2 ⟨rfl,hb2⟩)
     | (go_at_call 112;(with_reducible refine (v1 _).mono ?_);rintro e w' ⟨rfl,rfl⟩)
     | (go_at_call 112;(with_reducible refine (v2 _).mono ?_);rintro e w' ⟨rfl,rfl⟩))
    exact ⟨⟨1,by omega,by go_num,by show _=Value.int .i64 (apZ F G x y (x+bsd x W) y);rw [HE.out,HZ1.out],hL1.nx hb2⟩,by simp [intOf]⟩
   have eb:bsd x W=0:=by unfold bsd;rw [if_neg h1,if_neg h2]
   have hz:=HS1.out eb
   clear eb
   go_wp2_with fail
   exact ⟨⟨1,by omega,by go_num,by show _=Value.int .i64 (apZ F G x y (x+bsd x W) y);rw [hz],hL⟩,by simp [intOf]⟩
  ·simp only [rstep]
   by_cases h1:y+1<H
   ·have eb:bsd y H=1:=by unfold bsd;rw [if_pos h1]
    rw [eb] at hA2 v3 v4 HZ2
    have kx:=hL.k 0 (by simp)
    simp only [List.getElem_cons_zero] at kx
    clear eb HS1 HS2
    clear hA1 v1 v2 HZ1
    generalize apZ F G x y (x+bsd x W) y=a1 at *
    generalize F x (y+1) 1=p1 at *
    generalize G x (y+1) 1=p2 at *
    generalize E x (y+1) 1=p3 at *
    generalize F x y 1=q1 at *
    generalize G x y 1=q2 at *
    generalize E x y 1=q3 at *
    generalize apD q1 p1=d1 at *
    generalize apD q2 p2=d2 at *
    go_wp2_with (first
     | (refine ldB rfl _ _ rfl kx rfl Tryz.underlying32 rfl xf_sizeS ?_)
     | (go_at_call 59;(with_reducible refine (hA0 _ hL.bel).mono ?_);rintro e w1 ⟨rfl,hb1⟩;have hL1:=hL.nx hb1;have kx1:Bk w1 w.heap.size 32 #[.int .i64 k,.slice A n cp]:=hL1.k 0 (by simp))
     | (refine ldB rfl _ _ rfl kx1 rfl Tryz.underlying32 rfl xf_sizeS ?_)
     | (go_at_call 59;(with_reducible refine (hA2 _ hL1.bel).mono ?_);rintro e w2 ⟨rfl,hb2⟩)
     | (go_at_call 112;(with_reducible refine (v3 _).mono ?_);rintro e w' ⟨rfl,rfl⟩)
     | (go_at_call 112;(with_reducible refine (v4 _).mono ?_);rintro e w' ⟨rfl,rfl⟩))
    exact ⟨⟨2,by omega,by go_num,by rw [HZ2.out];rfl,hL1.nx hb2⟩,by simp [intOf]⟩
   by_cases h2:0<y
   ·have eb:bsd y H=-1:=by unfold bsd;rw [if_neg h1,if_pos h2]
    rw [eb] at hA2 v3 v4 HZ2
    have kx:=hL.k 0 (by simp)
    simp only [List.getElem_cons_zero] at kx
    clear eb HS1 HS2
    clear hA1 v1 v2 HZ1
    generalize apZ F G x y (x+bsd x W) y=a1 at *
    generalize F x (y+-1) 1=p1 at *
    generalize G x (y+-1) 1=p2 at *
    generalize E x (y+-1) 1=p3 at *
    generalize F x y 1=q1 at *
    generalize G x y 1=q2 at *
    generalize E x y 1=q3 at *
    generalize apD q1 p1=d1 at *
    generalize apD q2 p2=d2 at *
    go_wp2_with (first
     | (refine ldB rfl _ _ rfl kx rfl Tryz.underlying32 rfl xf_sizeS ?_)
     | (go_at_call 59;(with_reducible refine (hA0 _ hL.bel).mono ?_);rintro e w1 ⟨rfl,hb1⟩;have hL1:=hL.nx hb1;have kx1:Bk w1 w.heap.size 32 #[.int .i64 k,.slice A n cp]:=hL1.k 0 (by simp))
     | (refine ldB rfl _ _ rfl kx1 rfl Tryz.underlying32 rfl xf_sizeS ?_)
     | (go_at_call 59;(with_reducible refine (hA2 _ hL1.bel).mono ?_);rintro e w2 ⟨rfl,hb2⟩)
     | (go_at_call 112;(with_reducible refine (v3 _).mono ?_);rintro e w' ⟨rfl,rfl⟩)
     | (go_at_call 112;(with_reducible refine (v4 _).mono ?_);rintro e w' ⟨rfl,rfl⟩))
    exact ⟨⟨2,by omega,by go_num,by rw [HZ2.out];rfl,hL1.nx hb2⟩,by simp [intOf]⟩
   have eb:bsd y H=0:=by unfold bsd;rw [if_neg h1,if_neg h2]
   have hz:=HS2.out eb
   clear eb
   go_wp2_with fail
   exact ⟨⟨2,by omega,by go_num,by show _=Value.int .i64 (rchZ F G W H x y);rw [hz],hL⟩,by simp [intOf]⟩
  ·simp only [rstep]
   go_wp2_with fail
   go_returns
   exact ⟨rfl,hL.bel⟩
end Go.Proofs.YtjbelhpgbcnlmaaGreat
end
section
set_option linter.unusedVariables false
namespace Go.Proofs.YtjbelhpgbcnlmaaGreat
open Go.RowKit
theorem xf_sizeP:(Tryz.prog.info? 32).map (·.size)=some 2:=by kernel_rfl
set_option maxRecDepth 100000 in
set_option maxHeartbeats 16000000 in
theorem rpix_plain (A:Option Addr) (n c C:Nat) (kn nn mo c0 c1 c2 c3:Int) (kx:Int) (Ax:Option Addr) (nx cx:Nat) (W H x y d:Int) (k:Nat) (U V:Int) (E:Int) (L:List Int) (w:World) (hkn:kn≠3) (hn:1≤n∧n≤16)
 (hRe:∀ w',Below w.heap.size w w'→Calls Tryz.prog 58 #[xfV kx Ax nx cx,.int .i64 W,.int .i64 H,.int .i64 x,.int .i64 y] w' fun e w''=>e=.returned (.int .i64 d)∧Below w'.heap.size w' w'')
 (hk:lv d (lvTop ((n:Int)-1))=k)
 (hAt:∀ w',Below w.heap.size w w'→Calls Tryz.prog 59 #[xfV kx Ax nx cx,.int .i64 x,.int .i64 y,.int .i64 1] w' fun e w''=>e=.returned (.tuple #[.int .i64 U,.int .i64 V,.int .i64 E])∧Below w'.heap.size w' w'')
 (hS:∀ w',Below w.heap.size w w'→Calls Tryz.prog 60 #[.slice A n c,.int .i64 kn,bdV mo c0 c1 c2 c3,.int .i64 k,.int .i64 U,.int .i64 V] w' fun e w''=>∃ s,e=.returned s∧w''.ownsRow w'.heap.size 5 1 s C (L.map (Value.int .u8))∧Below w'.heap.size w' w'') :
 Calls Tryz.prog 19 #[.slice A n c,.int .i64 kn,.int .i64 nn,bdV mo c0 c1 c2 c3,xfV kx Ax nx cx,.int .i64 W,.int .i64 H,.int .i64 x,.int .i64 y] w fun e w'=>∃ s,e=.returned s∧w'.ownsRow w.heap.size 5 1 s C (L.map (Value.int .u8))∧Below w.heap.size w w':=by
 have hP:=fun w'=>lv_rpick_any d ((n:Int)-1) w'
 simp only [hk] at hP
 obtain ⟨n0,n1⟩:=hn
 have HK:=Lib.hid hk
 have hw1:wrap64 ((n:Int)-1)=(n:Int)-1:=IntWalk.wrap64_in _ ⟨by omega,by omega⟩
 have hb:(kn != 3)=true:=by simpa using hkn
 have hL:=((Lie.start w).alloc #[.int .i64 mo,.int .u8 c0,.int .u8 c1,.int .u8 c2,.int .u8 c3] 27).alloc #[.int .i64 kx,.slice Ax nx cx] 32
 simp only [World.size_alloc] at hL
 clear hk hkn
 go_enter Tryz.func19,Tryz.ntmps19
 go_upto_region 1 with fail
 generalize (w.alloc (.cells #[.int .i64 mo,.int .u8 c0,.int .u8 c1,.int .u8 c2,.int .u8 c3] 27)).alloc (.cells #[.int .i64 kx,.slice Ax nx cx] 32)=w0 at *
 have k1:Bk w0 (w.heap.size+1) 32 #[.int .i64 kx,.slice Ax nx cx]:=hL.k 0 (by simp)
 have k0:Bk w0 w.heap.size 27 #[.int .i64 mo,.int .u8 c0,.int .u8 c1,.int .u8 c2,.int .u8 c3]:=hL.k 1 (by simp)
 have hz:=hL.sz
 obtain ⟨d0,d1⟩:=k1.cell2
 have hR:=hRe _ hL.bel
 have hbel:=hL.bel
 clear hRe hL
 go_wp2_with fail
 refine hR.mono ?_
 rintro e w1 ⟨rfl,hb1⟩
 have k11:=k1.nx hb1
 have k01:=k0.nx hb1
 have hbel1:=hbel.trans (hb1.mono hz)
 have hz1:=hbel1.size
 obtain ⟨d0,d1⟩:=k11.cell2
 have hA1:=hAt _ hbel1
 clear hR k1 k0 hbel hb1 hAt
 go_wp2_with (go_at_call 57;(with_reducible refine (hP _).mono ?_);rintro e w2 ⟨rfl,rfl⟩)
 refine hA1.mono ?_
 rintro e w2 ⟨rfl,hb2⟩
 have k02:=k01.nx hb2
 have hbel2:=hbel1.trans (hb2.mono hz1)
 have hz2:=hbel2.size
 have hS2:=hS _ hbel2
 obtain ⟨e0,e1,e2,e3,e4⟩:=k02.cell5
 clear hA1 k11 k01 hbel1 hb2 hS hP
 go_wp2_with fail
 refine hS2.mono ?_
 rintro e w3 ⟨s,rfl,ho,hb3⟩
 go_wp2_with fail
 go_returns
 exact ⟨s,rfl,own_base ho hz2,hbel2.trans (hb3.mono hz2)⟩
end Go.Proofs.YtjbelhpgbcnlmaaGreat
end
section
set_option linter.unusedVariables false
namespace Go.Proofs.YtjbelhpgbcnlmaaGreat
open Go.RowKit
set_option maxRecDepth 100000 in
set_option maxHeartbeats 16000000 in
theorem rpix_area (A:Option Addr) (n c C q:Nat) (b o:Nat) (mo c0 c1 c2 c3:Int) (kx:Int) (Ax:Option Addr) (nx cx:Nat) (W H x y d:Int) (k:Nat) (X Y:Nat→Int) (U V E:Nat→Int) (Lr:Nat→List Int) (w:World) (hn:1≤n∧n≤16) (hq:1≤q∧q≤8) (hC:C≤4) (hx:0≤x∧x≤32768) (hy:0≤y∧y≤32768)
 (hA:A=some ⟨b,o,none⟩) (hbw:b<w.heap.size) (hcc:w.cell? ⟨b,o+2,none⟩=some (.int .i64 C))
 (hX:∀ j,X j=2*q*x+2*j+1-q) (hY:∀ i,Y i=2*q*y+2*i+1-q)
 (hRe:∀ w',Below w.heap.size w w'→Calls Tryz.prog 58 #[xfV kx Ax nx cx,.int .i64 W,.int .i64 H,.int .i64 x,.int .i64 y] w' fun e w''=>e=.returned (.int .i64 d)∧Below w'.heap.size w' w'')
 (hk:lv d (lvTop ((n:Int)-1))=k)
 (hL:∀ t,t<q*q→(Lr t).length=C) (hb:∀ t j,0≤(Lr t).getD j 0∧(Lr t).getD j 0≤255)
 (hAt:∀ t,t<q*q→∀ w',Below w.heap.size w w'→Calls Tryz.prog 59 #[xfV kx Ax nx cx,.int .i64 (X (t%q)),.int .i64 (Y (t/q)),.int .i64 (2*q)] w' fun e w''=>e=.returned (.tuple #[.int .i64 (U t),.int .i64 (V t),.int .i64 (E t)])∧Below w'.heap.size w' w'')
 (hS:∀ t,t<q*q→∀ w',Below w.heap.size w w'→Calls Tryz.prog 60 #[.slice A n c,.int .i64 3,bdV mo c0 c1 c2 c3,.int .i64 k,.int .i64 (U t),.int .i64 (V t)] w' fun e w''=>∃ s,e=.returned s∧w''.ownsRow w'.heap.size 5 1 s C ((Lr t).map (Value.int .u8))∧Below w'.heap.size w' w'') :
 Calls Tryz.prog 19 #[.slice A n c,.int .i64 3,.int .i64 q,bdV mo c0 c1 c2 c3,xfV kx Ax nx cx,.int .i64 W,.int .i64 H,.int .i64 x,.int .i64 y] w fun e w'=>∃ s,e=.returned s∧w'.ownsRow w.heap.size 5 1 s C (((List.range C).map fun j=>meanZ (manyS Lr (q*q) j) (q*q)).map (Value.int .u8))∧Below w.heap.size w w':=by
 subst hA
 have hP:=fun w'=>lv_rpick_any d ((n:Int)-1) w'
 simp only [hk] at hP
 obtain ⟨n0,n1⟩:=hn
 obtain ⟨q0,q8⟩:=hq
 obtain ⟨x0,x1⟩:=hx
 obtain ⟨y0,y1⟩:=hy
 have HK:=Lib.hid hk
 have HX:=Lib.hid hX
 have HY:=Lib.hid hY
 have HL:=Lib.hid hL
 have HB:=Lib.hid hb
 have HA:=Lib.hid hAt
 have HS:=Lib.hid hS
 have hw1:wrap64 ((n:Int)-1)=(n:Int)-1:=IntWalk.wrap64_in _ ⟨by omega,by omega⟩
 have hmk:=run_make1 (P:=Tryz.prog) Tryz.underlying120 sums_info rfl (C:Int) C rfl (by omega) (by omega)
 have hLi:=((Lie.start w).alloc #[.int .i64 mo,.int .u8 c0,.int .u8 c1,.int .u8 c2,.int .u8 c3] 27).alloc #[.int .i64 kx,.slice Ax nx cx] 32
 simp only [World.size_alloc] at hLi
 clear hk hX hY hL hb hAt hS
 go_enter Tryz.func19,Tryz.ntmps19
 go_upto_region 1 with fail
 generalize (w.alloc (.cells #[.int .i64 mo,.int .u8 c0,.int .u8 c1,.int .u8 c2,.int .u8 c3] 27)).alloc (.cells #[.int .i64 kx,.slice Ax nx cx] 32)=w0 at *
 have k1:Bk w0 (w.heap.size+1) 32 #[.int .i64 kx,.slice Ax nx cx]:=hLi.k 0 (by simp)
 have k0:Bk w0 w.heap.size 27 #[.int .i64 mo,.int .u8 c0,.int .u8 c1,.int .u8 c2,.int .u8 c3]:=hLi.k 1 (by simp)
 have hz:=hLi.sz
 obtain ⟨d0,d1⟩:=k1.cell2
 have hR:=hRe _ hLi.bel
 have hbel:=hLi.bel
 clear hRe hLi
 go_wp2_with fail
 refine hR.mono ?_
 rintro e w1 ⟨rfl,hb1⟩
 have k11:=k1.nx hb1
 have k01:=k0.nx hb1
 have hbel1:=hbel.trans (hb1.mono hz)
 have hz1:=hbel1.size
 have hcc1:=(hbel1.cell (p:=⟨b,o+2,none⟩) hbw).trans hcc
 clear hR k1 k0 hbel hb1 hcc d0 d1
 have h0n:(0:Int)<(n:Int):=by omega
 have h0m:0<n:=by omega
 go_wp2_with (go_at_call 57;(with_reducible refine (hP _).mono ?_);rintro e w2 ⟨rfl,rfl⟩)
 have hzg:w.heap.size≤w1.heap.size:=hz1
 obtain ⟨g2,hg2⟩:∃ g2,w1.heap.size=g2:=⟨_,rfl⟩
 have kS:=Bk.new w1 3 (Array.replicate C (.int .i64 0))
 have hbel2:Below w.heap.size w (w1.alloc (.cells (Array.replicate C (.int .i64 0)) 3)):=hbel1.alloc hz1 _
 have k12:=k11.alloc (.cells (Array.replicate C (.int .i64 0)) 3)
 have k02:=k01.alloc (.cells (Array.replicate C (.int .i64 0)) 3)
 have hz2:(w1.alloc (.cells (Array.replicate C (.int .i64 0)) 3)).heap.size=g2+1:=by simp [hg2]
 have hl1:=k11.lt
 have hl0:=k01.lt
 rw [hg2] at *
 generalize w1.alloc (.cells (Array.replicate C (.int .i64 0)) 3)=w2 at *
 clear k11 k01 hbel1 hcc1 hP hmk hz1 hg2 hw1 h0n
 go_loopw [24] (fun v wr=>∃ t:Nat,v=.int .i64 t∧t≤q*q∧Bk wr g2 3 (fnA C (manyS Lr t))∧Below g2 w2 wr∧Below w.heap.size w wr) (fun v _=>q*q-(intOf v).toNat)
 case atStart =>
  refine ⟨0,rfl,by omega,?_,Below.refl _ _,hbel2⟩
  rw [fnA_zero] at kS
  exact kS
 case round =>
  obtain ⟨t,rfl,ht,hB,hb2,hbel⟩:=hrel
  obtain ⟨wq,rfl⟩:∃ wq:World,wq=wr:=⟨_,rfl⟩
  have k13:=k12.below hb2 hl1
  have k03:=k02.below hb2 hl0
  have hqq:q*q≤64:=by
   have:q*q≤8*8:=Nat.mul_le_mul q8 q8
   omega
  have hcq:((q*q:Nat):Int)=(q:Int)*(q:Int):=Int.natCast_mul q q
  have hq0b:-9223372036854775808≤(q:Int)*(q:Int)∧(q:Int)*(q:Int)≤9223372036854775807:=⟨by omega,by omega⟩
  by_cases hlt:t<q*q
  ·have htq:(t:Int)<(q:Int)*(q:Int):=by omega
   have h1:t/q<q:=Nat.div_lt_of_lt_mul hlt
   have h2:t%q<q:=Nat.mod_lt _ (by omega)
   have hA1:=HA.out t hlt
   rw [HX.out,HY.out] at hA1
   have hS1:=HS.out t hlt
   have hL1:=HL.out t hlt
   have hnx:manyS Lr (t+1)=fun a=>manyS Lr t a+(Lr t).getD a 0:=rfl
   have HNX:=Lib.hid hnx
   have hbd:=fun a=>manyS_bd HB.out a t
   have r1:(t:Int).tmod (q:Int)=((t%q:Nat):Int):=Int.ofNat_tmod t q |>.symm
   have r2:(t:Int).tdiv (q:Int)=((t/q:Nat):Int):=Int.ofNat_tdiv t q |>.symm
   have r3:(t:Int)%(q:Int)=((t%q:Nat):Int):=(Int.natCast_emod t q).symm
   have r4:(t:Int)/(q:Int)=((t/q:Nat):Int):=(Int.natCast_ediv t q).symm
   generalize t%q=jm at *
   generalize t/q=im at *
   have hj0:(0:Int)≤(jm:Int)∧(jm:Int)≤8:=by omega
   have hi0:(0:Int)≤(im:Int)∧(im:Int)≤8:=by omega
   generalize (jm:Int)=jz at *
   generalize (im:Int)=iz at *
   generalize U t=Ut at *
   generalize V t=Vt at *
   generalize E t=Et at *
   have p0:0≤2*(q:Int)*x:=Int.mul_nonneg (by omega) x0
   have p1:2*(q:Int)*x≤2*(q:Int)*32768:=Int.mul_le_mul_of_nonneg_left x1 (by omega)
   have p2:0≤2*(q:Int)*y:=Int.mul_nonneg (by omega) y0
   have p3:2*(q:Int)*y≤2*(q:Int)*32768:=Int.mul_le_mul_of_nonneg_left y1 (by omega)
   have a1:wrap64 (2*(q:Int))=2*(q:Int):=IntWalk.wrap64_in _ ⟨by omega,by omega⟩
   have a2:wrap64 (2*(q:Int)*x)=2*(q:Int)*x:=IntWalk.wrap64_in _ ⟨by omega,by omega⟩
   have a3:wrap64 (2*jz)=2*jz:=IntWalk.wrap64_in _ ⟨by omega,by omega⟩
   have a4:wrap64 (2*(q:Int)*x+2*jz)=2*(q:Int)*x+2*jz:=IntWalk.wrap64_in _ ⟨by omega,by omega⟩
   have a5:wrap64 (2*(q:Int)*x+2*jz+1)=2*(q:Int)*x+2*jz+1:=IntWalk.wrap64_in _ ⟨by omega,by omega⟩
   have a6:wrap64 (2*(q:Int)*x+2*jz+1-(q:Int))=2*(q:Int)*x+2*jz+1-(q:Int):=IntWalk.wrap64_in _ ⟨by omega,by omega⟩
   have a7:wrap64 jz=jz:=IntWalk.wrap64_in _ ⟨by omega,by omega⟩
   have b2:wrap64 (2*(q:Int)*y)=2*(q:Int)*y:=IntWalk.wrap64_in _ ⟨by omega,by omega⟩
   have b3:wrap64 (2*iz)=2*iz:=IntWalk.wrap64_in _ ⟨by omega,by omega⟩
   have b4:wrap64 (2*(q:Int)*y+2*iz)=2*(q:Int)*y+2*iz:=IntWalk.wrap64_in _ ⟨by omega,by omega⟩
   have b5:wrap64 (2*(q:Int)*y+2*iz+1)=2*(q:Int)*y+2*iz+1:=IntWalk.wrap64_in _ ⟨by omega,by omega⟩
   have b6:wrap64 (2*(q:Int)*y+2*iz+1-(q:Int))=2*(q:Int)*y+2*iz+1-(q:Int):=IntWalk.wrap64_in _ ⟨by omega,by omega⟩
   have b7:wrap64 iz=iz:=IntWalk.wrap64_in _ ⟨by omega,by omega⟩
   have z0:((q:Int)==0)=false:=by simp;omega
   have z1:¬((q:Int)=0):=by omega
   have z2:¬(q=0):=by omega
   obtain ⟨d0,d1⟩:=k13.cell2
   have hA2:=hA1 _ hbel
   have ht64:t≤64:=by omega
   have a0:wrap64 ((q:Int)*(q:Int))=(q:Int)*(q:Int):=IntWalk.wrap64_in _ hq0b
   clear hA1 p0 p1 p2 p3 hnx hq0b hcq hqq
   go_wp2_with fail
   refine hA2.mono ?_
   rintro e w3 ⟨rfl,hb3⟩
   have k04:=k03.nx hb3
   have hB3:=hB.nx hb3
   have hwz:=hb2.size
   have hqz:=hbel.size
   have hbel3:=hbel.trans (hb3.mono hqz)
   have hS3:=hS1 _ hbel3
   obtain ⟨e0,e1,e2,e3,e4⟩:=k04.cell5
   have hb23:=hb2.trans (hb3.mono (show g2≤wq.heap.size by omega))
   clear hA2 hS1 k13 k03 d0 d1 a0 a1 a2 a3 a4 a5 a6 a7 b2 b3 b4 b5 b6 b7 hB hb2 hbel hb3
   go_wp2_with fail
   refine hS3.mono ?_
   rintro e w4 ⟨s4,rfl,ho4,hb4⟩
   have hB4:=hB3.nx hb4
   have hb24:=hb23.trans (hb4.mono (show g2≤w3.heap.size by have:=hb23.size;omega))
   have hbel4:=hbel3.trans (hb4.mono hbel3.size)
   obtain ⟨A4,q4,rfl,hq4,_⟩:=own_form ho4
   have hr4:RdL w4 (g2+1) A4 ((Lr t).map (Value.int .u8)):=(RdL.of_own ho4).less (show g2+1≤w3.heap.size by have:=hb23.size;omega)
   clear hS3 k04 e0 e1 e2 e3 e4 hB3 hb23 hbel3 ho4 hb4
   go_wp2_with fail
   go_loopw [31] (fun v wr=>∃ a:Nat,v=.int .i64 a∧a≤C∧Bk wr g2 3 (fnA C (fun j=>if j<a then manyS Lr t j+(Lr t).getD j 0 else manyS Lr t j))∧w4.grownBy wr (some g2)) (fun v _=>C-(intOf v).toNat)
   case atStart=>exact ⟨0,rfl,by omega,by simpa using hB4,World.grownBy.refl w4 _⟩
   case round =>
    obtain ⟨a,rfl,ha,hKr,hgr⟩:=hrel
    by_cases hla:a<C
    ·have hacc:(a:Int)<(C:Int):=by omega
     obtain ⟨bb,oo,rfl,hgb,hbw4,hcc4⟩:=hr4 a (by rw [List.length_map,hL1];exact hla)
     have hz:((Lr t).map (Value.int .u8))[a]'(by rw [List.length_map,hL1];exact hla)=.int .u8 ((Lr t).getD a 0):=by
      rw [List.getElem_map,List.getD_eq_getElem?_getD,List.getElem?_eq_getElem (by rw [hL1];exact hla)];rfl
     rw [hz] at hcc4
     have q1:wr.cell? ⟨bb,oo+a,none⟩=some (.int .u8 ((Lr t).getD a 0)):=(World.cell?_of_block (hgr.block bb hbw4 (fun e=>by injection e with e;omega))).trans hcc4
     have q2:wr.cell? ⟨g2,a,none⟩=some (.int .i64 (manyS Lr t a)):=by
      rw [hKr.cell a,fnA_get _ hla,if_neg (Nat.lt_irrefl a)]
     have hf:=hKr.frozen a
     have s1:=HB.out t a
     have s2:=hbd a
     have hset:fnA C (fun j=>if j<a+1 then manyS Lr t j+(Lr t).getD j 0 else manyS Lr t j)=(fnA C (fun j=>if j<a then manyS Lr t j+(Lr t).getD j 0 else manyS Lr t j)).setIfInBounds a (.int .i64 (manyS Lr t a+(Lr t).getD a 0)):=by
      rw [fnA_set]
      refine fnA_ext fun j _=>?_
      by_cases e:j=a
      ·subst e;rw [if_pos (by omega),if_pos rfl]
      ·rw [if_neg e]
       by_cases e2:j<a
       ·rw [if_pos (by omega),if_pos e2]
       ·rw [if_neg (by omega),if_neg e2]
     have HSET:=Lib.hid hset
     clear hset hz hcc4
     generalize hZ:(Lr t).getD a 0=Z at *
     generalize hsk:manyS Lr t a=sk at *
     have HZ:=Lib.hid hZ
     have HSK:=Lib.hid hsk
     clear hZ hsk
     have t1:wrap64 Z=Z:=IntWalk.wrap64_in _ ⟨by omega,by omega⟩
     have t2:wrap64 (sk+Z)=sk+Z:=IntWalk.wrap64_in _ ⟨by omega,by omega⟩
     have t3:IntKind.i64.wrap Z=Z:=IntWalk.i64_in _ ⟨by omega,by omega⟩
     have t4:IntKind.i64.wrap (sk+Z)=sk+Z:=IntWalk.i64_in _ ⟨by omega,by omega⟩
     go_upto_region 16 with fail
     go_region
     go_wp2_with fail
     exact ⟨⟨a+1,by go_num,by omega,by rw [HSET.out];exact hKr.set a _,gb_drew (gb_setCell hgr (.inl rfl) _)⟩,by simp [intOf];omega⟩
    ·obtain rfl:a=C:=by omega
     have hfin:fnA a (fun j=>if j<a then manyS Lr t j+(Lr t).getD j 0 else manyS Lr t j)=fnA a (manyS Lr (t+1)):=by
      rw [HNX.out];exact fnA_ext fun j hj=>if_pos hj
     rw [hfin] at hKr
     have hb5:=below_of_gb hb24 hgr (Nat.le_refl _) (by have:=hb24.size;omega)
     have hbel5:=below_of_gb hbel4 hgr (by omega) hbel4.size
     clear hfin hgr hr4 hB4
     go_wp2_with fail
     exact ⟨⟨t+1,by go_num,by omega,hKr,hb5,hbel5⟩,by simp [intOf];omega⟩
  ·have hte:t=q*q:=by omega
   rw [hte] at hB ⊢
   have hnt:¬(((q*q:Nat):Int)<(q:Int)*(q:Int)):=by omega
   have hqq1:1≤q*q:=Nat.mul_pos (by omega) (by omega)
   have hbd:=fun a=>manyS_bd HB.out a (q*q)
   have hD:2*(q:Int)*(q:Int)=2*((q:Int)*(q:Int)):=Int.mul_assoc _ _ _
   have hg2:g2<wq.heap.size:=hB.lt
   have HD:=Lib.hid hD
   have hmb:=fun a=>meanZ_bd (s:=manyS Lr (q*q) a) (q:=(q:Int)*(q:Int)) (by omega) (by have:=hbd a;omega)
   have HQ:=Lib.hid hcq
   have HQQ:=Lib.hid hqq
   have HQ1:=Lib.hid hqq1
   have hwq:=hbel.size
   have hlt2:¬(t<q*q):=hlt
   clear hte hcq hqq hqq1 hD hq0b k13 k03 k12 k02 hb2 ht hlt kS hbel2
   rw [HQ.out] at *
   have HMB:=Lib.hid hmb
   have hbd2:∀ a,0≤manyS Lr (q*q) a∧manyS Lr (q*q) a≤255*((q:Int)*(q:Int)):=fun a=>by
    have h:=hbd a
    have h2:=HQ.out
    omega
   have HBD:=Lib.hid hbd2
   clear hbd2
   have hQ1:(1:Int)≤(q:Int)*(q:Int)∧(q:Int)*(q:Int)≤64:=by have:=HQ.out;have:=HQQ.out;have:=HQ1.out;omega
   have HDD:=HD.out
   have hqz:(1:Int)≤(q:Int)∧(q:Int)≤8:=⟨by omega,by omega⟩
   clear hmb hbd hnt hlt2 HX HY HL HB HA HS HK HD HQ HQQ HQ1
   generalize hSS:manyS Lr (q*q)=SS at *
   generalize hqn:(q:Int)=qz at *
   have HSS:=Lib.hid hSS
   have HQN:=Lib.hid hqn
   clear hSS hqn
   generalize hQQ:qz*qz=QQ at *
   generalize hDD:2*QQ=DD at *
   have v0:wrap64 (qz*qz)=QQ:=by rw [hQQ];exact IntWalk.wrap64_in _ ⟨by omega,by omega⟩
   have v3:wrap64 (2*qz)=2*qz:=IntWalk.wrap64_in _ ⟨by omega,by omega⟩
   have v4:wrap64 (2*qz*qz)=DD:=by rw [HDD];exact IntWalk.wrap64_in _ ⟨by omega,by omega⟩
   have HQZ:=Lib.hid hQQ
   have HDZ:=Lib.hid hDD
   clear hDD hQQ HDD
   go_wp2_with fail
   clear v0
   go_loopw [32,33] (fun v u wr=>∃ a:Nat,u=.int .i64 a∧a≤C∧wr.ownsRow wq.heap.size 5 1 v a (((List.range a).map fun j=>meanZ (SS j) QQ).map (Value.int .u8))∧Below wq.heap.size wq wr) (fun _ u _=>C-(intOf u).toNat)
   case atStart=>exact ⟨0,rfl,by omega,World.ownsRow_nil _ _ _ _,Below.refl _ _⟩
   case round =>
    obtain ⟨a,rfl,ha,hown,hb5⟩:=hrel
    by_cases hla:a<C
    ·have hacc:(a:Int)<(C:Int):=by omega
     have q2:wr.cell? ⟨g2,a,none⟩=some (.int .i64 (SS a)):=by
      rw [hb5.cell (by exact hg2),hB.cell a,fnA_get _ hla]
     have s1:=HMB.out a
     have s2:=HBD.out a
     have hsz:=hb5.size
     have HR:=Lib.hid (List.range_succ (n:=a))
     have ht:(2*SS a+QQ).tdiv DD=meanZ (SS a) QQ:=by
      unfold meanZ;rw [← HDZ.out];exact Int.tdiv_eq_ediv_of_nonneg (by omega)
     generalize hmz:meanZ (SS a) QQ=mz at *
     generalize hsk:SS a=sk at *
     have HMZ:=Lib.hid hmz
     have HSK:=Lib.hid hsk
     clear hmz hsk
     have n1:2*QQ=DD:=HDZ.out
     have f7:(DD==0)=false:=by simp;omega
     have f8:¬(DD=0):=by omega
     have o1:(a+1)*1≤140737488355328:=by omega
     have o2:a+1≤9223372036854775807:=by omega
     have f1:IntKind.u8.wrap mz=mz:=by rw [IntKind.wrap_u8];omega
     have v0:wrap64 (qz*qz)=QQ:=by rw [HQZ.out];exact IntWalk.wrap64_in _ ⟨by omega,by omega⟩
     have v1:wrap64 (2*sk)=2*sk:=IntWalk.wrap64_in _ ⟨by omega,by omega⟩
     have v2:wrap64 (2*sk+QQ)=2*sk+QQ:=IntWalk.wrap64_in _ ⟨by omega,by omega⟩
     have v5:wrap64 mz=mz:=IntWalk.wrap64_in _ ⟨by omega,by omega⟩
     have HLA:=Lib.hid hla
     clear n1 s1 s2 hQ1 hqz hla ha hB
     go_wp2_with (at_builtin;refine app1 rfl _ _ _ rfl Tryz.underlying22 u8_info rfl Nat.one_pos rfl rfl hown hb5 (Nat.le_refl _) hsz rfl ints1 o1 o2 ?_;intro v' w' hown' hbel' hlt' hgr _;clear v0 v1 v2 v3 v4 v5 f1 f7 f8)
     have hla:=HLA.out
     refine ⟨⟨a+1,by go_num,hla,?_,hbel'⟩,by simp [intOf];omega⟩
     rw [HR.out]
     simpa [HMZ.out,HSK.out] using hown'
    ·obtain rfl:a=C:=by omega
     go_wp2_with fail
     go_returns
     refine ⟨_,rfl,?_,hbel.trans (hb5.mono hwq)⟩
     rw [HSS.out,HQN.out,HQZ.out]
     exact own_base hown hwq
end Go.Proofs.YtjbelhpgbcnlmaaGreat
end
