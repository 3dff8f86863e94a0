/- Several texts in one: Several texts in one: Quotients of numbers that have room: rounded down, rounded to the nearer one. shear: turning by three slants. shear: where a place comes from; and the reference. shear: where a place comes from; and the reference. the reference's slants. turn: quarters of a turn, and mirrors: what is wrong, and what it is. -/
import Derived.Test.YtjbelhpgbcnlmaaGreatSamplePixelsZz12
import Derived.Test.YtjbelhpgbcnlmaaGreatSamplePixelsZz14
import Derived.StillTailTactics
section
section
set_option linter.unusedVariables false
namespace Go.Proofs.YtjbelhpgbcnlmaaGreat
open Go.RowKit
theorem fdiv_eq (a b:Int) (hb:1≤b) (h:a.tmod b≠0) (ha:a<0):a/b=a.tdiv b-1:=by
 have h1:=Int.tdiv_eq_ediv (a:=a) (b:=b)
 have h2:=Int.tmod_eq_emod (a:=a) (b:=b)
 have h3:=Int.emod_nonneg a (show b≠0 by omega)
 have h4:=Int.emod_lt_of_pos a (show 0<b by omega)
 have h5:b.sign=1:=Int.sign_eq_one_of_pos (by omega)
 rw [h5] at h1
 by_cases hd:b ∣ a
 ·exact absurd (Int.tmod_eq_zero_of_dvd hd) h
 ·rw [if_neg (by omega)] at h1;omega
theorem fdiv_eq0 (a b:Int) (hb:1≤b) (h:a.tmod b=0):a/b=a.tdiv b:=by
 have h1:=Int.tdiv_eq_ediv (a:=a) (b:=b)
 rw [if_pos (.inr (Int.dvd_of_tmod_eq_zero h))] at h1;omega
theorem ediv_neg_bd (a b:Int) (hb:1≤b) (h:a<0):a≤a/b∧a/b≤0:=by
 have h1:=Int.mul_ediv_add_emod a b
 have h2:=Int.emod_nonneg a (show b≠0 by omega)
 have h3:=Int.emod_lt_of_pos a (show 0<b by omega)
 constructor
 ·rcases Int.lt_or_le (a/b) a with h4|h4
  ·exfalso
   have h5:b*(a/b+1)≤1*(a/b+1):=Int.mul_le_mul_of_nonpos_right hb (by omega)
   rw [Int.mul_add] at h5
   omega
  ·exact h4
 ·rcases Int.lt_or_le 0 (a/b) with h4|h4
  ·exfalso
   have:0≤b*(a/b):=Int.mul_nonneg (by omega) (by omega)
   omega
  ·exact h4
set_option maxHeartbeats 400000 in
theorem qfloor_any (a b:Int) (w:World) (hb:1≤b) (hb2:b≤9223372036854775807) (ha:-9223372036854775808<a∧a≤9223372036854775807) :
 Calls Tryz.prog 253 #[.int .i64 a,.int .i64 b] w fun e w'=>e=.returned (.tuple #[.int .i64 (a/b),.bool true])∧w=w':=by
 have hbn:decide (b<0)=false:=by simp;omega
 have hb0:decide (b=0)=false:=by simp;omega
 have hb1:(b==0)=false:=by simp;omega
 have hmn:(a==-9223372036854775808)=false:=by simp;omega
 have hb3:(b==-1)=false:=by simp;omega
 by_cases h1:a<0
 ·have hq:=ediv_neg_bd a b hb h1
  have hq2:-9223372036854775808≤a/b:=by omega
  by_cases h0:a.tmod b=0
  ·have HE:=Lib.hid (fdiv_eq0 a b hb h0)
   have h0':(a.tmod b != 0)=false:=by simpa using h0
   go_enter Tryz.func253,Tryz.ntmps253
   go_wp2
   all_goals
    go_returns
    exact ⟨by rw [HE.out];rfl,rfl⟩
  ·have e:=fdiv_eq a b hb h0 h1
   have HE:=Lib.hid e;rw [e] at hq hq2;clear e
   have h0':(a.tmod b != 0)=true:=by simpa using h0
   have hw:wrap64 (a.tdiv b-1)=a.tdiv b-1:=IntWalk.wrap64_in _ ⟨by omega,by omega⟩
   go_enter Tryz.func253,Tryz.ntmps253
   go_wp2
   all_goals
    go_returns
    exact ⟨by rw [HE.out];rfl,rfl⟩
 ·have HX:=Lib.hid (Int.tdiv_eq_ediv_of_nonneg (b:=b) (show 0≤a by omega))
  go_enter Tryz.func253,Tryz.ntmps253
  go_wp2
  all_goals
   go_returns
   exact ⟨by first | rfl|(rw [← HX.out];rfl),rfl⟩
set_option maxHeartbeats 400000 in
theorem rdown_any (a b:Int) (w:World) (hb:1≤b) (ha:-9223372036854775808≤a∧a≤9223372036854775807) (hb2:b≤9223372036854775807) :
 Calls Tryz.prog 185 #[.int .i64 a,.int .i64 b] w fun e w'=>e=.returned (.int .i64 (a/b))∧w=w':=by
 have hbn:decide (b<0)=false:=by simp;omega
 by_cases h1:a<0
 ·have hq:=ediv_neg_bd a b hb h1
  have hq2:-9223372036854775808≤a/b:=by omega
  by_cases h0:a.tmod b=0
  ·have e:=fdiv_eq0 a b hb h0
   have HE:=Lib.hid e;clear e
   go_enter Tryz.func185,Tryz.ntmps185
   go_wp2
   go_ret
   exact ⟨ret_int HE.out.symm,rfl⟩
  ·have e:=fdiv_eq a b hb h0 h1
   have HE:=Lib.hid e;rw [e] at hq hq2;clear e
   have h0':(a.tmod b != 0)=true:=by simpa using h0
   go_enter Tryz.func185,Tryz.ntmps185
   go_wp2
   go_ret
   exact ⟨ret_int HE.out.symm,rfl⟩
 ·go_enter Tryz.func185,Tryz.ntmps185
  go_wp2
  all_goals
   go_ret
   exact ⟨rfl,rfl⟩
def nrF (p d:Int):Int:=(2*p+d)/(2*d)
theorem nr_eq {p d:Int} (hd:1≤d):nrF p d=if 2*(p-d*(p/d))<d then p/d else p/d+1:=by
 unfold nrF
 have e1:=Int.mul_ediv_add_emod p d
 have e2:=Int.emod_nonneg p (show d≠0 by omega)
 have e3:=Int.emod_lt_of_pos p (show 0<d by omega)
 have e4:p-d*(p/d)=p%d:=by omega
 rw [e4]
 generalize p%d=r at *
 generalize p/d=q at *
 split
 ·refine ((Int.ediv_emod_unique (show 0<2*d by omega) (r:=2*r+d)).2 ⟨?_,by omega,by omega⟩).1
  rw [← e1,Int.mul_assoc];omega
 ·refine ((Int.ediv_emod_unique (show 0<2*d by omega) (r:=2*r-d)).2 ⟨?_,by omega,by omega⟩).1
  rw [← e1,Int.mul_add,Int.mul_assoc];omega
theorem div_bd {p d:Int} {B:Int} (hd:1≤d) (h:-B≤p) (h':p≤B) (hB:0≤B):-B≤p/d∧p/d≤B:=by
 constructor
 ·refine Int.le_ediv_of_mul_le (by omega) ?_
  have:B*1≤B*d:=Int.mul_le_mul_of_nonneg_left hd hB
  rw [Int.neg_mul];omega
 ·have h1:p/d*d≤p:=Int.ediv_mul_le p (by omega)
  rcases Int.lt_or_le B (p/d) with h2|h2
  ·exfalso
   have:(B+1)*1≤p/d*d:=Int.mul_le_mul h2 hd (by omega) (by omega)
   omega
  ·exact h2
theorem nr_bd {p d:Int} {B:Int} (hd:1≤d) (h:-B≤p) (h':p≤B) (hB:0≤B):-B≤nrF p d∧nrF p d≤B+1:=by
 have:=div_bd hd h h' hB
 rw [nr_eq hd]
 split <;> omega
set_option maxHeartbeats 400000 in
theorem rnear_any (p d:Int) (w:World) (hd:1≤d) (hd2:d≤1073741824) (hp:-1152921504606846976≤p) (hp2:p≤1152921504606846976) :
 Calls Tryz.prog 119 #[.int .i64 p,.int .i64 d] w fun e w'=>e=.returned (.int .i64 (nrF p d))∧w=w':=by
 have hD:=fun w'=>rdown_any (2*p+d) (2*d) w' (by omega) ⟨by omega,by omega⟩ (by omega)
 go_enter Tryz.func119,Tryz.ntmps119
 go_wp2_with (go_at_call 185;(with_reducible refine (hD _).mono ?_);rintro e w' ⟨rfl,rfl⟩)
 go_ret
 exact ⟨rfl,rfl⟩
set_option maxRecDepth 100000 in
set_option maxHeartbeats 4000000 in
theorem qhalf_any (p d:Int) (w:World) (hd:1≤d) (hd2:d≤1073741824) (hp:-1152921504606846976≤p) (hp2:p≤1152921504606846976) :
 Calls Tryz.prog 297 #[WV p,.int .i64 d] w fun e w'=>e=.returned (.tuple #[WV (nrF p d),.bool true])∧Below w.heap.size w w':=by
 have hq:fq p d=p/d:=by unfold fq;rw [if_neg (by omega)]
 have hr:fr p d=p-d*(p/d):=by unfold fr;rw [hq]
 have hW:=fun w'=>qwide_any p d w' (by unfold Wq;omega) (by omega) (by unfold J64;omega)
 rw [hq,hr] at hW
 have hb:=div_bd (B:=1152921504606846976) hd hp hp2 (by decide)
 have e2:=Int.emod_nonneg p (show d≠0 by omega)
 have e3:=Int.emod_lt_of_pos p (show 0<d by omega)
 have e1:=Int.mul_ediv_add_emod p d
 have hA:=fun w'=>wadd_any (p/d) 1 w' (by unfold Wd;omega) (by unfold Wd;omega) (by unfold Wd;omega)
 have hO:=fun w'=>wof_any 1 w' (by unfold J64;omega)
 have HE:=Lib.hid (nr_eq (p:=p) hd)
 have hL:=((Lie.start w).alloc (wdA p) 289).alloc #[.int .i64 0,.int .u64 0] 289
 simp only [World.size_alloc] at hL
 have hb0:(d==0)=false:=beq_eq_false_iff_ne.2 (by omega)
 obtain ⟨r,hr'⟩:∃ r,p-d*(p/d)=r:=⟨_,rfl⟩
 have hr0:0≤r∧r<d:=by omega
 obtain ⟨hr0,hr1⟩:=hr0
 rw [hr'] at hW HE
 have u1:IntKind.u64.wrap r=r:=by rw [uw];omega
 have u2:IntKind.u64.wrap d=d:=by rw [uw];omega
 have u3:IntKind.u64.wrap (d-r)=d-r:=by rw [uw];omega
 clear hq hr e1 e2 e3 hr'
 generalize p/d=q at *
 by_cases h2:2*r<d
 ·have HN:Hid (nrF p d=q):=by show _=_;rw [HE.out,if_pos h2]
  have h3:r<d-r:=by omega
  clear HE hp hp2 hb hA hO h2
  go_enter Tryz.func297,Tryz.ntmps297
  go_wp2_with (first
   | (go_at_call 279;(with_reducible refine (hW _).mono ?_);rintro e w1 ⟨rfl,hb1⟩;have hL1:=(hL.nx hb1).alloc (wdA q) 289;have k4:Bk _ (w.heap.size+1) 289 #[.int .i64 0,.int .u64 0]:=hL1.k 1 (by simp))
   | (refine stWd rfl _ _ rfl k4 rfl rfl rfl ?_;intro w4 k5 hg4 hs4))
  refine bodyPost_ret (res_wd_tmp rfl k5 rfl) rfl ?_
  exact ⟨by rw [HN.out];rfl,below_of_gb hL1.bel hg4 (by omega) hL1.sz⟩
 ·have HN:Hid (nrF p d=q+1):=by show _=_;rw [HE.out,if_neg h2]
  have h3:¬r<d-r:=by omega
  have h4:d-r≤r:=by omega
  clear HE hp hp2 hb h2 h3
  go_enter Tryz.func297,Tryz.ntmps297
  go_wp2_with (first
   | (go_at_call 279;(with_reducible refine (hW _).mono ?_);rintro e w1 ⟨rfl,hb1⟩;have hL1:=(hL.nx hb1).alloc (wdA q) 289;have k4:Bk _ (w.heap.size+1) 289 #[.int .i64 0,.int .u64 0]:=hL1.k 1 (by simp)))
  have k6:Bk _ w1.heap.size 289 (wdA q):=hL1.k 0 (by simp)
  generalize hg6:w1.heap.size=g6 at *
  clear k4 hb1 hL hW
  generalize w1.alloc (.cells (wdA q) 289)=w2 at *
  refine wp_region_quiet_tail 5 (by kernel_rfl) (by kernel_rfl) ?_
  simp only [List.take_succ_cons,List.take_zero,List.drop_succ_cons,List.drop_zero]
  repeat (first | (refine wpQuiet_load rfl _ _ rfl k6 rfl Tryz.underlying289 rfl wd_size ?_;simp only [Act.put,List.setIfInBounds_toArray,List.set_cons_zero,List.set_cons_succ])|go_big_quiet_step ((first | with_reducible exact quiet_below (hO _)|with_reducible exact quiet_below (hA _)))|quiet_step ((first | with_reducible exact quiet_below (hO _)|with_reducible exact quiet_below (hA _))))
  refine wpQuiet_nil ?_
  intro _ hw'
  obtain ⟨⟨d',os⟩,hw''⟩:=hw'
  subst hw''
  have hbx:=below_regrown w2 d' os
  generalize Go.Sort.grow (redrawn w2 d') os=wx at *
  have hLx:=hL1.nx hbx
  have k1x:Bk wx (w.heap.size+1) 289 #[.int .i64 0,.int .u64 0]:=hLx.k 1 (by simp)
  go_wp2_with (refine stWd rfl _ _ rfl k1x rfl rfl rfl ?_;intro w4 k5 hg4 hs4)
  refine bodyPost_ret (res_wd_tmp rfl k5 rfl) rfl ?_
  exact ⟨by rw [HN.out];rfl,below_of_gb hLx.bel hg4 (by omega) hLx.sz⟩
set_option maxHeartbeats 4000000 in
theorem qnear_any (p d:Int) (w:World) (hd:1≤d) (hd2:d≤1073741824) (hp:-1152921504606846976≤p) (hp2:p≤1152921504606846976) :
 Calls Tryz.prog 248 #[.int .i64 p,.int .i64 d] w fun e w'=>e=.returned (.tuple #[.int .i64 (nrF p d),.bool true])∧Below w.heap.size w w':=by
 have hO:=fun w'=>wof_any p w' (by unfold J64;omega)
 have hH:=fun w'=>qhalf_any p d w' hd hd2 hp hp2
 have hb:=nr_bd (B:=1152921504606846976) hd hp hp2 (by decide)
 have hF:=fun w'=>fits64_yes (nrF p d) w' (by unfold J64;omega)
 have hL:=Lie.start w
 clear hb hp hp2 hd hd2
 generalize nrF p d=q at *
 go_enter Tryz.func248,Tryz.ntmps248
 go_wp2_with (first
  | (go_at_call 298;(with_reducible refine (hO _).mono ?_);rintro e w1 ⟨rfl,hb1⟩;have hL1:=hL.nx hb1)
  | (go_at_call 297;(with_reducible refine (hH _).mono ?_);rintro e w2 ⟨rfl,hb2⟩;have hL2:=(hL1.nx hb2).alloc (wdA q) 289)
  | (go_at_call 299;(with_reducible refine (hF _).mono ?_);rintro e w3 ⟨rfl,hb3⟩;have hL3:=hL2.nx hb3))
 go_returns
 exact ⟨rfl,hL3.bel⟩
end Go.Proofs.YtjbelhpgbcnlmaaGreat
end
section
set_option linter.unusedVariables false
namespace Go.Proofs.YtjbelhpgbcnlmaaGreat
open Go.RowKit
theorem lget {l:List Int} {w:World} {B n:Nat} {A:Option Addr} (hl:l.length=n) (hn:0<n) (hr:Rd w B A (l.map (Value.int .i64))):∃ b o,A=some ⟨b,o,none⟩∧b<B∧w.cell? ⟨b,o,none⟩=some (.int .i64 (cf l 0))∧∀ i,i<n→w.cell? ⟨b,o+i,none⟩=some (.int .i64 (cf l i)):=by
 obtain ⟨b,o,rfl,hb,_⟩:=hr.get 0 (by simp [hl];omega)
 have h:∀ i,i<n→w.cell? ⟨b,o+i,none⟩=some (.int .i64 (cf l i)):=fun i hi=>by
  obtain ⟨b',o',e,_,hc⟩:=hr.get i (by simp [hl];omega)
  injection e with e
  injection e with e1 e2
  subst e1 e2
  rw [hc]
  simp [cf,List.getD_eq_getElem?_getD,List.getElem?_eq_getElem (show i<l.length by omega)]
 exact ⟨b,o,rfl,hb,h 0 hn,h⟩
set_option maxHeartbeats 400000 in
theorem sin_any (a b:Int) (w:World) (hb0:0≤b) (hb:b≤9223372036854775807):Calls Tryz.prog 212 #[.int .i64 a,.int .i64 b] w fun e w'=>e=.returned (.bool (inH a b))∧w=w':=by
 have hw:wrap64 (-b)=-b:=IntWalk.wrap64_in _ ⟨by omega,by omega⟩
 by_cases h1:-b≤a
 all_goals
  go_enter Tryz.func212,Tryz.ntmps212
  go_wp2
  go_ret
  exact ⟨ret_bool (by rw [inH_eq];simp <;> omega),rfl⟩
def rg4 (l:List Int):Bool:=inH (cf l 0) 262144&&inH (cf l 1) 262144&&inH (cf l 2) 32768&&inH (cf l 3) 32768
def shC (l:List Int):Int:=if l.length≠4 then 12 else if rg4 l=true then 0 else 11
theorem shC_zero {l:List Int}:shC l=0 ↔ l.length=4∧rg4 l=true:=by
 unfold shC
 by_cases h:l.length=4
 ·cases h2:rg4 l <;> simp [h]
 ·simp [h]
theorem rg4_bd {l:List Int} (h:rg4 l=true):(-262144≤cf l 0∧cf l 0≤262144)∧(-262144≤cf l 1∧cf l 1≤262144)∧(-32768≤cf l 2∧cf l 2≤32768)∧(-32768≤cf l 3∧cf l 3≤32768):=by
 unfold rg4 at h
 simp only [Bool.and_eq_true,inH_iff] at h
 omega
set_option maxRecDepth 100000 in
set_option maxHeartbeats 4000000 in
theorem scheck4 (l:List Int) (A:Option Addr) (n cp:Nat) (w:World) {B:Nat} (hl:l.length=n) (hr:Rd w B A (l.map (Value.int .i64))) :
 Calls Tryz.prog 142 #[.slice A n cp] w fun e w'=>e=.returned (.int .i64 (shC l))∧w=w':=by
 by_cases hn:n=4
 ·subst hn
  obtain ⟨b,o,rfl,hb,c0,hc⟩:=lget hl (by decide) hr
  have c1:=hc 1 (by decide)
  have c2:=hc 2 (by decide)
  have c3:=hc 3 (by decide)
  have HR:Hid (shC l=if (inH (cf l 0) 262144&&inH (cf l 1) 262144&&inH (cf l 2) 32768&&inH (cf l 3) 32768)=true then 0 else 11):=by
   show _=_;unfold shC;rw [if_neg (by omega)];rfl
  clear hc hl hr
  generalize cf l 0=x0 at *
  generalize cf l 1=x1 at *
  generalize cf l 2=x2 at *
  generalize cf l 3=x3 at *
  rcases (show (inH x0 262144=false)∨(inH x0 262144=true∧inH x1 262144=false)∨(inH x0 262144=true∧inH x1 262144=true∧inH x2 32768=false)∨(inH x0 262144=true∧inH x1 262144=true∧inH x2 32768=true∧inH x3 32768=false)∨(inH x0 262144=true∧inH x1 262144=true∧inH x2 32768=true∧inH x3 32768=true) by
   cases inH x0 262144 <;> cases inH x1 262144 <;> cases inH x2 32768 <;> cases inH x3 32768 <;> simp) with h0|⟨h0,h1⟩|⟨h0,h1,h2⟩|⟨h0,h1,h2,h3⟩|⟨h0,h1,h2,h3⟩
  all_goals
   go_enter Tryz.func142,Tryz.ntmps142
   go_wp2_with (go_at_call 212;(with_reducible refine (sin_any _ _ _ (by decide) (by decide)).mono ?_);rintro e w' ⟨rfl,rfl⟩;first | rw [h0]|rw [h1]|rw [h2]|rw [h3])
   go_ret
   exact ⟨ret_int (by rw [HR.out];simp [*]),rfl⟩
 ·have HR:Hid (shC l=12):=by show _=_;unfold shC;rw [if_pos (by omega)]
  have hnb:((n:Int) != 4)=true:=by rw [bne_iff_ne];omega
  clear hl hn
  go_enter Tryz.func142,Tryz.ntmps142
  go_wp2_with fail
  all_goals first
   | (go_ret;exact ⟨ret_int HR.out.symm,rfl⟩)
   | (exfalso;omega)
def shA (l:List Int):Array Value:=#[.int .i64 (cf l 0),.int .i64 (cf l 1),.int .i64 (cf l 2),.int .i64 (cf l 3)]
def ShR (l:List Int) (w w':World) (p:Option Addr):Prop :=
 (shC l≠0→p=none)∧(shC l=0→∃ g,p=some ⟨g,0,none⟩∧w.heap.size≤g∧Bk w' g 318 (shA l))
set_option maxRecDepth 100000 in
set_option maxHeartbeats 8000000 in
theorem snew_any (l:List Int) (A:Option Addr) (n cp:Nat) (w:World) {B:Nat} (hl:l.length=n) (hr:Rd w B A (l.map (Value.int .i64))) (hB:B≤w.heap.size) :
 Calls Tryz.prog 171 #[.slice A n cp] w fun e w'=>∃ p,e=.returned (.tuple #[.pointer p,.int .i64 (shC l)])∧ShR l w w' p∧Below w.heap.size w w':=by
 have hC:=scheck4 l A n cp w hl hr
 have hb0:=Below.refl w.heap.size w
 by_cases h1:shC l=0
 ·obtain ⟨hlen,_⟩:=shC_zero.1 h1
  obtain rfl:n=4:=by rw [← hl];exact hlen
  rw [h1] at hC
  simp only [ShR,h1]
  obtain ⟨b,o,rfl,hb,c0,hc⟩:=lget hl (by decide) hr
  have c1:=hc 1 (by decide)
  have c2:=hc 2 (by decide)
  have c3:=hc 3 (by decide)
  unfold shA
  clear hc hl hr h1 hlen
  generalize cf l 0=x0 at *
  generalize cf l 1=x1 at *
  generalize cf l 2=x2 at *
  generalize cf l 3=x3 at *
  go_enter Tryz.func171,Tryz.ntmps171
  go_wp2_with (go_at_call 142;(with_reducible refine hC.mono ?_);rintro e wa ⟨rfl,rfl⟩)
  go_still_tail 13,(by kernel_rfl)
  change wpList _ _ _ _ _ w.drew
  have hb1:Below w.heap.size w w.drew:=below_drewN hb0 1
  have hK:=Bk.new w.drew 318 #[.int .i64 x0,.int .i64 x1,.int .i64 x2,.int .i64 x3]
  have hb2:=hb1.alloc hb1.size (.cells #[.int .i64 x0,.int .i64 x1,.int .i64 x2,.int .i64 x3] 318)
  clear c0 c1 c2 c3
  go_wp2_with fail
  go_returns
  exact ⟨_,rfl,⟨fun h=>absurd rfl h,fun _=>⟨_,rfl,Nat.le_refl _,hK⟩⟩,hb2⟩
 ·have hb:(shC l != 0)=true:=by simp [h1]
  have hne:=Lib.hid h1
  simp only [ShR]
  clear h1 hl hr
  generalize shC l=c at *
  go_enter Tryz.func171,Tryz.ntmps171
  go_wp2_with (go_at_call 142;(with_reducible refine hC.mono ?_);rintro e wa ⟨rfl,rfl⟩)
  go_returns
  exact ⟨none,rfl,⟨fun _=>rfl,fun h=>absurd h hne.out⟩,hb0⟩
theorem sz_cases (W H:Int):(szH W H=true∧1≤W∧W≤32768∧1≤H∧H≤32768)∨(szH W H=false∧(W<1∨(1≤W∧32768<W)∨(1≤W∧W≤32768∧H<1)∨(1≤W∧W≤32768∧1≤H∧32768<H))):=by
 cases h:szH W H
 ·right
  have h':¬szH W H=true:=by rw [h];simp
  rw [szH_iff] at h'
  exact ⟨rfl,by omega⟩
 ·left
  have:=szH_iff.1 h
  exact ⟨rfl,by omega⟩
end Go.Proofs.YtjbelhpgbcnlmaaGreat
end
section
set_option linter.unusedVariables false
namespace Go.Proofs.YtjbelhpgbcnlmaaGreat
open Go.RowKit
def rn (z:Int):Int:=(z+32768)/65536
theorem rn_nr (z:Int):nrF z 65536=rn z:=by unfold nrF rn;omega
theorem shr_16 (x:Int) (s:Nat) (hs:s=16):x >>> s=x/65536:=by
 subst hs;rw [Int.shiftRight_eq_div_pow];rfl
set_option maxRecDepth 100000 in
set_option maxHeartbeats 4000000 in
theorem across_any (g:Nat) (x y k:Int) (w:World) (hK:Bk w g 322 #[.int .i64 x,.int .i64 y]) (h1:-1125899906842624≤k*y) (h2:k*y≤1125899906842624) (h3:-1099511627776≤x) (h4:x≤1099511627776) :
 Calls Tryz.prog 249 #[.pointer (some ⟨g,0,none⟩),.int .i64 k] w fun e w'=>e=.returned (.tuple #[])∧Bk w' g 322 #[.int .i64 (x+rn (k*y)),.int .i64 y]∧w.grownBy w' (some g):=by
 obtain ⟨c0,c1⟩:=hK.cell2
 have f0:=hK.frozen 0
 have hKd:=(hK.set 0 (.int .i64 (x+(k*y+32768)/65536))).drew
 simp only [List.setIfInBounds_toArray,List.set_cons_zero] at hKd
 have hg:w.grownBy (w.setCell ⟨g,0,none⟩ (.int .i64 (x+(k*y+32768)/65536))).drew (some g):=gb_drew (gb_setCell (World.grownBy.refl w _) (.inl rfl) _)
 clear hK
 go_enter Tryz.func249,Tryz.ntmps249
 go_still_tail 15,(by kernel_rfl)
 change wpList _ _ _ _ _ w.drew
 go_wp2_with fail
 go_end0
 exact ⟨rfl,hKd,hg⟩
set_option maxRecDepth 100000 in
set_option maxHeartbeats 4000000 in
theorem along_any (g:Nat) (x y k:Int) (w:World) (hK:Bk w g 322 #[.int .i64 x,.int .i64 y]) (h1:-1125899906842624≤k*x) (h2:k*x≤1125899906842624) (h3:-1099511627776≤y) (h4:y≤1099511627776) :
 Calls Tryz.prog 250 #[.pointer (some ⟨g,0,none⟩),.int .i64 k] w fun e w'=>e=.returned (.tuple #[])∧Bk w' g 322 #[.int .i64 x,.int .i64 (y+rn (k*x))]∧w.grownBy w' (some g):=by
 obtain ⟨c0,c1⟩:=hK.cell2
 have f0:=hK.frozen 1
 have hKd:=(hK.set 1 (.int .i64 (y+(k*x+32768)/65536))).drew
 simp only [List.setIfInBounds_toArray,List.set_cons_zero,List.set_cons_succ] at hKd
 have hg:w.grownBy (w.setCell ⟨g,1,none⟩ (.int .i64 (y+(k*x+32768)/65536))).drew (some g):=gb_drew (gb_setCell (World.grownBy.refl w _) (.inl rfl) _)
 clear hK
 go_enter Tryz.func250,Tryz.ntmps250
 go_still_tail 15,(by kernel_rfl)
 change wpList _ _ _ _ _ w.drew
 go_wp2_with fail
 go_end0
 exact ⟨rfl,hKd,hg⟩
end Go.Proofs.YtjbelhpgbcnlmaaGreat
end
section
set_option linter.unusedVariables false
namespace Go.Proofs.YtjbelhpgbcnlmaaGreat
open Go.RowKit
def slX (l:List Int) (x y:Int):Int:=x-cf l 2+rn (cf l 0*(y-cf l 3))
def slY (l:List Int) (x y:Int):Int:=y-cf l 3+rn (cf l 1*slX l x y)
def slZ (l:List Int) (x y:Int):Int:=slX l x y+rn (cf l 0*slY l x y)
def shU (l:List Int) (px py d:Int):Int:=65536*(slZ l (nrF px d) (nrF py d)+cf l 2)
def shV (l:List Int) (px py d:Int):Int:=65536*(slY l (nrF px d) (nrF py d)+cf l 3)
structure SlB (l:List Int) (x y:Int):Prop where
 x0:-1100000≤x-cf l 2∧x-cf l 2≤1100000
 y0:-1100000≤y-cf l 3∧y-cf l 3≤1100000
 p1:-1000000000000≤cf l 0*(y-cf l 3)∧cf l 0*(y-cf l 3)≤1000000000000
 x1:-6000000≤slX l x y∧slX l x y≤6000000
 p2:-1600000000000/1≤cf l 1*slX l x y∧cf l 1*slX l x y≤1600000000000
 y1:-26000000≤slY l x y∧slY l x y≤26000000
 p3:-7000000000000≤cf l 0*slY l x y∧cf l 0*slY l x y≤7000000000000
 x2:-120000000≤slZ l x y∧slZ l x y≤120000000
theorem rn_bd {z B:Int} (h:-B≤z) (h':z≤B):-(B/65536)-1≤rn z∧rn z≤B/65536+1:=by unfold rn;omega
theorem slB {l:List Int} {x y:Int} (h:rg4 l=true) (hx:-1048577≤x∧x≤1048577) (hy:-1048577≤y∧y≤1048577):SlB l x y:=by
 obtain ⟨a,b,c,d⟩:=rg4_bd h
 have x0:-1100000≤x-cf l 2∧x-cf l 2≤1100000:=by omega
 have y0:-1100000≤y-cf l 3∧y-cf l 3≤1100000:=by omega
 have p1:=mulbd a.1 a.2 y0.1 y0.2
 have r1:=rn_bd p1.1 p1.2
 have x1:-6000000≤slX l x y∧slX l x y≤6000000:=by unfold slX;omega
 have p2:=mulbd b.1 b.2 x1.1 x1.2
 have r2:=rn_bd p2.1 p2.2
 have y1:-26000000≤slY l x y∧slY l x y≤26000000:=by unfold slY;omega
 have p3:=mulbd a.1 a.2 y1.1 y1.2
 have r3:=rn_bd p3.1 p3.2
 have x2:-120000000≤slZ l x y∧slZ l x y≤120000000:=by unfold slZ;omega
 exact ⟨x0,y0,by omega,x1,by omega,y1,by omega,x2⟩
set_option maxRecDepth 100000 in
set_option maxHeartbeats 8000000 in
theorem sat_nil (x y d:Int) (w:World):Calls Tryz.prog 172 #[.pointer none,.int .i64 x,.int .i64 y,.int .i64 d] w fun e w' =>
 e=.returned (.tuple #[.int .i64 0,.int .i64 0,.int .i64 10])∧w=w':=by
 go_enter Tryz.func172,Tryz.ntmps172
 go_wp2_with fail
 go_returns
 exact ⟨rfl,rfl⟩
theorem right_cases (px py d:Int):(rightH px py d=true∧inH px 1048576=true∧inH py 1048576=true∧1≤d∧d≤16)∨(rightH px py d=false∧(inH px 1048576=false∨(inH px 1048576=true∧inH py 1048576=false)∨(inH px 1048576=true∧inH py 1048576=true∧d<1)∨(inH px 1048576=true∧inH py 1048576=true∧1≤d∧16<d))):=by
 cases h:rightH px py d
 ·right
  refine ⟨rfl,?_⟩
  have h':¬rightH px py d=true:=by rw [h];simp
  rw [rightH_iff] at h'
  cases h1:inH px 1048576
  ·exact .inl rfl
  ·cases h2:inH py 1048576
   ·exact .inr (.inl ⟨rfl,rfl⟩)
   ·rw [inH_iff] at h1 h2
    right;right
    by_cases h3:d<1
    ·exact .inl ⟨rfl,rfl,h3⟩
    ·exact .inr ⟨rfl,rfl,by omega,by omega⟩
 ·left
  have h':=rightH_iff.1 h
  exact ⟨rfl,inH_iff.2 (by omega),inH_iff.2 (by omega),by omega,by omega⟩
def shAns (l:List Int) (px py d:Int):Value:=if rightH px py d=true then .tuple #[.int .i64 (shU l px py d),.int .i64 (shV l px py d),.int .i64 0] else .tuple #[.int .i64 0,.int .i64 0,.int .i64 11]
set_option maxRecDepth 100000 in
set_option maxHeartbeats 8000000 in
theorem sat_any (l:List Int) (g:Nat) (px py d:Int) (w:World) (hK:Bk w g 318 (shA l)) (h:rg4 l=true) :
 Calls Tryz.prog 172 #[.pointer (some ⟨g,0,none⟩),.int .i64 px,.int .i64 py,.int .i64 d] w fun e w' =>
  e=.returned (shAns l px py d)∧Below w.heap.size w w':=by
 have hb0:=Below.refl w.heap.size w
 rcases right_cases px py d with ⟨hp,h0,h1,h2,h3⟩|⟨hp,hc⟩
 ·have HA:Hid (shAns l px py d=.tuple #[.int .i64 (shU l px py d),.int .i64 (shV l px py d),.int .i64 0]):=by show _=_;unfold shAns;rw [if_pos hp]
  have i0:=inH_iff.1 h0
  have i1:=inH_iff.1 h1
  have n0:=nr_bd (B:=1048576) h2 i0.1 i0.2 (by decide)
  have n1:=nr_bd (B:=1048576) h2 i1.1 i1.2 (by decide)
  have hN0:=fun w'=>qnear_any px d w' h2 (by omega) (by omega) (by omega)
  have hN1:=fun w'=>qnear_any py d w' h2 (by omega) (by omega) (by omega)
  obtain ⟨x0,y0,p1,x1,p2,y1,p3,x2⟩:=slB (x:=nrF px d) (y:=nrF py d) h (by omega) (by omega)
  have bd:=rg4_bd h
  unfold shU shV at HA
  clear hp h i0 i1
  generalize nrF px d=X at *
  generalize nrF py d=Y at *
  obtain ⟨x00,x01⟩:=x0
  obtain ⟨y00,y01⟩:=y0
  obtain ⟨p10,p11⟩:=p1
  obtain ⟨x10,x11⟩:=x1
  obtain ⟨p20,p21⟩:=p2
  obtain ⟨y10,y11⟩:=y1
  obtain ⟨p30,p31⟩:=p3
  obtain ⟨x20,x21⟩:=x2
  obtain ⟨⟨b00,b01⟩,⟨b10,b11⟩,⟨b20,b21⟩,b30,b31⟩:=bd
  have EX:=Lib.hid (show slX l X Y=X-cf l 2+rn (cf l 0*(Y-cf l 3)) from rfl)
  have EY:=Lib.hid (show slY l X Y=Y-cf l 3+rn (cf l 1*slX l X Y) from rfl)
  have EZ:=Lib.hid (show slZ l X Y=slX l X Y+rn (cf l 0*slY l X Y) from rfl)
  unfold shA at hK
  have hL:Lie w [(g,318,#[.int .i64 (cf l 0),.int .i64 (cf l 1),.int .i64 (cf l 2),.int .i64 (cf l 3)])] w:=⟨hb0,by intro x hx;rw [List.mem_singleton] at hx;subst hx;exact hK⟩
  have hg:=hK.lt
  clear hb0 hK
  generalize slX l X Y=P at *
  generalize slY l X Y=Q at *
  generalize slZ l X Y=R at *
  generalize cf l 0=a at *
  generalize cf l 1=b at *
  generalize cf l 2=cx at *
  generalize cf l 3=cy at *
  go_enter Tryz.func172,Tryz.ntmps172
  go_wp2_with (first
   | (go_at_call 212;(with_reducible refine (sin_any _ _ _ (by decide) (by decide)).mono ?_);rintro e w' ⟨rfl,rfl⟩;first | rw [h0]|rw [h1]))
  refine (hN0 _).mono ?_
  rintro e w1 ⟨rfl,hb1⟩
  replace hL:=hL.nx hb1
  go_wp2_with fail
  refine (hN1 _).mono ?_
  rintro e w2 ⟨rfl,hb2⟩
  replace hL:=hL.nx hb2
  have hs2:w.heap.size≤w2.heap.size:=hL.sz
  clear hb1 hb2 hN0 hN1
  obtain ⟨c0,c1,c2,c3⟩:=(hL.k 0 (by simp)).cell4
  simp only [List.getElem_cons_zero] at c0 c1 c2 c3
  go_wp2_with fail
  go_still_tail 13,(by kernel_rfl)
  change wpList _ _ _ _ _ w2.drew
  replace hL:=hL.drew
  have hL2:=hL.alloc #[.int .i64 (X-cx),.int .i64 (Y-cy)] 322
  have hgw:=hL.k 0 (by simp)
  have hsz:w.heap.size≤w2.drew.heap.size:=hL.sz
  have hg2:g<w2.drew.heap.size:=hgw.lt
  clear c0 c1 c2 c3 hL hgw
  generalize w2.drew=w3 at *
  go_upto_region 9 with fail
  generalize hgp:w3.heap.size=gp at *
  generalize w3.alloc (.cells #[.int .i64 (X-cx),.int .i64 (Y-cy)] 322)=w4 at *
  have kp:Bk w4 gp 322 #[.int .i64 (X-cx),.int .i64 (Y-cy)]:=hL2.k 0 (by simp)
  obtain ⟨c0,c1,c2,c3⟩:=(hL2.k 1 (by simp)).cell4
  simp only [List.getElem_cons_zero,List.getElem_cons_succ] at c0 c1 c2 c3
  clear hgp
  go_wp2_with fail
  refine (across_any gp _ _ a _ kp (by omega) (by omega) (by omega) (by omega)).mono ?_
  rintro e w5 ⟨rfl,kp5,hg5⟩
  rw [← EX.out] at kp5
  have hL5:=hL2.set hg5 kp5 hsz (by intro x hx;rw [List.mem_singleton] at hx;subst hx;simp;omega)
  clear c0 c1 c2 c3 kp hg5 hL2
  obtain ⟨c0,c1,c2,c3⟩:=(hL5.k 1 (by simp)).cell4
  simp only [List.getElem_cons_zero,List.getElem_cons_succ] at c0 c1 c2 c3
  go_wp2_with fail
  refine (along_any gp _ _ b _ kp5 (by omega) (by omega) (by omega) (by omega)).mono ?_
  rintro e w6 ⟨rfl,kp6,hg6⟩
  rw [← EY.out] at kp6
  have hL6:=hL5.set hg6 kp6 hsz (by intro x hx;rw [List.mem_singleton] at hx;subst hx;simp;omega)
  clear c0 c1 c2 c3 kp5 hg6 hL5
  obtain ⟨c0,c1,c2,c3⟩:=(hL6.k 1 (by simp)).cell4
  simp only [List.getElem_cons_zero,List.getElem_cons_succ] at c0 c1 c2 c3
  go_wp2_with fail
  refine (across_any gp _ _ a _ kp6 (by omega) (by omega) (by omega) (by omega)).mono ?_
  rintro e w7 ⟨rfl,kp7,hg7⟩
  rw [← EZ.out] at kp7
  have hL7:=hL6.set hg7 kp7 hsz (by intro x hx;rw [List.mem_singleton] at hx;subst hx;simp;omega)
  clear c0 c1 c2 c3 kp6 hg7 hL6
  obtain ⟨c0,c1,c2,c3⟩:=(hL7.k 1 (by simp)).cell4
  simp only [List.getElem_cons_zero,List.getElem_cons_succ] at c0 c1 c2 c3
  obtain ⟨d0,d1⟩:=kp7.cell2
  go_upto_region 12 with fail
  go_quiet (fail)
  go_wp2_with fail
  go_returns
  exact ⟨by rw [HA.out];rfl,below_drewN hL7.bel _⟩
 ·have HA:Hid (shAns l px py d=.tuple #[.int .i64 0,.int .i64 0,.int .i64 11]):=by show _=_;unfold shAns;rw [if_neg (by rw [hp];simp)]
  clear hp h
  rcases hc with h0|⟨h0,h1⟩|⟨h0,h1,h2⟩|⟨h0,h1,h2,h3⟩
  all_goals
   go_enter Tryz.func172,Tryz.ntmps172
   go_wp2_with (go_at_call 212;(with_reducible refine (sin_any _ _ _ (by decide) (by decide)).mono ?_);rintro e w' ⟨rfl,rfl⟩;first | rw [h0]|rw [h1])
   go_returns
   exact ⟨by rw [HA.out];rfl,hb0⟩
end Go.Proofs.YtjbelhpgbcnlmaaGreat
end
section
set_option linter.unusedVariables false
namespace Go.Proofs.YtjbelhpgbcnlmaaGreat
open Go.RowKit
def ms4 (i:Nat):Int:=if 1<i then 32768 else 262144
theorem ms4_bd (i:Nat):0≤ms4 i∧ms4 i≤262144:=by unfold ms4;split <;> omega
theorem rg4_iff {l:List Int}:rg4 l=true ↔ ∀ i,i<4→inH (l.getD i 0) (ms4 i)=true:=by
 unfold rg4
 simp only [Bool.and_eq_true]
 constructor
 ·rintro ⟨⟨⟨a,b⟩,c⟩,d⟩ i hi
  have h4:i=0∨i=1∨i=2∨i=3:=by omega
  rcases h4 with rfl|rfl|rfl|rfl
  ·exact a
  ·exact b
  ·exact c
  ·exact d
 ·intro h
  exact ⟨⟨⟨h 0 (by decide),h 1 (by decide)⟩,h 2 (by decide)⟩,h 3 (by decide)⟩
set_option maxRecDepth 100000 in
set_option maxHeartbeats 4000000 in
theorem rcheck22 (l:List Int) (A:Option Addr) (n cp:Nat) (w:World) {B:Nat} (hl:l.length=n) (hr:Rd w B A (l.map (Value.int .i64))) :
 Calls Tryz.prog 54 #[.slice A n cp] w fun e w'=>e=.returned (.int .i64 (shC l))∧w=w':=by
 by_cases hn:n=4
 ·subst hn
  have HL:=Lib.hid hl
  clear hl
  go_enter Tryz.func54,Tryz.ntmps54
  go_wp2_with fail
  go_loop [3,4] (fun kv _=>∃ k:Nat,k≤4∧kv=.int .i64 k∧Hid (∀ i,i<k→inH (l.getD i 0) (ms4 i)=true)) (fun kv _=>4-(intOf kv).toNat)
  case atStart=>exact ⟨0,by omega,rfl,by intro i hi;omega⟩
  case round =>
   obtain ⟨k,hk,rfl,hall⟩:=hrel
   by_cases hlt:k<4
   ·obtain ⟨b,o,rfl,hb,hc⟩:=hr.get k (by rw [List.length_map,HL.out];exact hlt)
    have hx:(l.map (Value.int .i64))[k]'(by rw [List.length_map,HL.out];exact hlt)=.int .i64 (l.getD k 0):=by
     rw [List.getElem_map,List.getD_eq_getElem?_getD,List.getElem?_eq_getElem (by rw [HL.out];exact hlt)];rfl
    rw [hx] at hc
    clear hx
    have hms:∀ x m,m=ms4 k→inH x m=inH x (ms4 k):=fun x m h=>by rw [h]
    cases hi:inH (l.getD k 0) (ms4 k)
    ·have HR:Hid (shC l=11):=by
      show _=_
      unfold shC
      rw [if_neg (by rw [HL.out];simp),if_neg]
      intro h
      have:=rg4_iff.1 h k hlt
      rw [hi] at this;cases this
     generalize l.getD k 0=x at *
     by_cases h1:1<k
     ·have hi':inH x 32768=false:=by rw [← hi];unfold ms4;rw [if_pos h1]
      clear hi hms
      go_wp2_with (go_at_call 102;(with_reducible refine (rin_any _ _ _ (by decide) (by decide)).mono ?_);rintro e w' ⟨rfl,rfl⟩;rw [hi'])
      go_ret
      exact ⟨ret_int HR.out.symm,rfl⟩
     ·have hi':inH x 262144=false:=by rw [← hi];unfold ms4;rw [if_neg h1]
      clear hi hms
      go_wp2_with (go_at_call 102;(with_reducible refine (rin_any _ _ _ (by decide) (by decide)).mono ?_);rintro e w' ⟨rfl,rfl⟩;rw [hi'])
      go_ret
      exact ⟨ret_int HR.out.symm,rfl⟩
    ·have HN:Hid (∀ i,i<k+1→inH (l.getD i 0) (ms4 i)=true):=by
      intro i hi2
      by_cases e:i=k
      ·rw [e];exact hi
      ·exact hall.out i (by omega)
     generalize l.getD k 0=x at *
     by_cases h1:1<k
     ·have hi':inH x 32768=true:=by rw [← hi];unfold ms4;rw [if_pos h1]
      clear hi hms
      go_wp2_with (go_at_call 102;(with_reducible refine (rin_any _ _ _ (by decide) (by decide)).mono ?_);rintro e w' ⟨rfl,rfl⟩;rw [hi'])
      exact ⟨⟨k+1,by omega,by go_num,HN⟩,by simp [intOf];omega⟩
     ·have hi':inH x 262144=true:=by rw [← hi];unfold ms4;rw [if_neg h1]
      clear hi hms
      go_wp2_with (go_at_call 102;(with_reducible refine (rin_any _ _ _ (by decide) (by decide)).mono ?_);rintro e w' ⟨rfl,rfl⟩;rw [hi'])
      exact ⟨⟨k+1,by omega,by go_num,HN⟩,by simp [intOf];omega⟩
   ·obtain rfl:k=4:=by omega
    have HR:Hid (shC l=0):=by
     show _=_
     unfold shC
     rw [if_neg (by rw [HL.out];simp),if_pos]
     exact rg4_iff.2 hall.out
    go_wp2_with fail
    go_ret
    exact ⟨ret_int HR.out.symm,rfl⟩
 ·have HR:Hid (shC l=12):=by show _=_;unfold shC;rw [if_pos (by omega)]
  have hnb:((n:Int) != 4)=true:=by rw [bne_iff_ne];omega
  clear hl hn
  go_enter Tryz.func54,Tryz.ntmps54
  go_wp2_with fail
  all_goals first
   | (go_ret;exact ⟨ret_int HR.out.symm,rfl⟩)
   | (exfalso;omega)
set_option maxRecDepth 100000 in
set_option maxHeartbeats 8000000 in
theorem rpixel22 (l:List Int) (A:Option Addr) (cp:Nat) (X Y:Int) (w:World) {B:Nat} (hl:l.length=4) (h:rg4 l=true) (hr:Rd w B A (l.map (Value.int .i64))) (hX:-1048577≤X∧X≤1048577) (hY:-1048577≤Y∧Y≤1048577) :
 Calls Tryz.prog 118 #[.slice A 4 cp,.int .i64 X,.int .i64 Y] w fun e w'=>e=.returned (.tuple #[.int .i64 (slZ l X Y+cf l 2),.int .i64 (slY l X Y+cf l 3)])∧Below w.heap.size w w':=by
 obtain ⟨b,o,rfl,hb,c0,hc⟩:=lget hl (by decide) hr
 have c1:=hc 1 (by decide)
 have c2:=hc 2 (by decide)
 have c3:=hc 3 (by decide)
 obtain ⟨⟨x00,x01⟩,⟨y00,y01⟩,⟨p10,p11⟩,⟨x10,x11⟩,⟨p20,p21⟩,⟨y10,y11⟩,⟨p30,p31⟩,⟨x20,x21⟩⟩:=slB h hX hY
 obtain ⟨⟨b00,b01⟩,⟨b10,b11⟩,⟨b20,b21⟩,b30,b31⟩:=rg4_bd h
 have hN:=fun z w' (h:-1152921504606846976≤z) (h':z≤1152921504606846976)=>(rnear_any z 65536 w' (by decide) (by decide) h h').mono (R':=fun e w''=>e=.returned (.int .i64 (rn z))∧w'=w'') fun e w'' ⟨q1,q2⟩=>⟨by rw [q1,rn_nr],q2⟩
 have hb0:=Below.refl w.heap.size w
 clear hc hl h hr
 unfold slZ slY slX at *
 generalize cf l 0=a at *
 generalize cf l 1=b at *
 generalize cf l 2=cx at *
 generalize cf l 3=cy at *
 have hN1:=fun w'=>hN (a*(Y-cy)) w' (by omega) (by omega)
 generalize rn (a*(Y-cy))=r1 at *
 have hN2:=fun w'=>hN (b*(X-cx+r1)) w' (by omega) (by omega)
 generalize rn (b*(X-cx+r1))=r2 at *
 have hN3:=fun w'=>hN (a*(Y-cy+r2)) w' (by omega) (by omega)
 generalize rn (a*(Y-cy+r2))=r3 at *
 clear hN
 go_enter Tryz.func118,Tryz.ntmps118
 go_wp2_with fail
 refine (hN1 _).mono ?_
 rintro e w1 ⟨rfl,rfl⟩
 go_wp2_with fail
 refine (hN2 _).mono ?_
 rintro e w1 ⟨rfl,rfl⟩
 go_wp2_with fail
 refine (hN3 _).mono ?_
 rintro e w1 ⟨rfl,rfl⟩
 go_upto_region 6 with fail
 go_quiet (fail)
 go_wp2_with fail
 go_returns
 exact ⟨rfl,below_drewN hb0 _⟩
end Go.Proofs.YtjbelhpgbcnlmaaGreat
end
section
set_option linter.unusedVariables false
namespace Go.Proofs.YtjbelhpgbcnlmaaGreat
open Go.RowKit
def tuC (l:List Int):Int:=if l.length≠3 then 12 else if cf l 0<0∨7<cf l 0 then 10 else if cf l 1<1∨32768<cf l 1∨cf l 2<1∨32768<cf l 2 then 30 else 0
structure TuOk (l:List Int):Prop where
 len:l.length=3
 q:0≤cf l 0∧cf l 0≤7
 w:1≤cf l 1∧cf l 1≤32768
 h:1≤cf l 2∧cf l 2≤32768
theorem tuC_zero {l:List Int}:tuC l=0 ↔ TuOk l:=by
 unfold tuC
 constructor
 ·intro h
  by_cases h1:l.length=3
  ·rw [if_neg (by omega)] at h
   split at h
   ·omega
   ·split at h
    ·omega
    ·exact ⟨h1,by omega,by omega,by omega⟩
  ·rw [if_pos h1] at h;omega
 ·rintro ⟨h1,h2,h3,h4⟩
  rw [if_neg (by omega),if_neg (by omega),if_neg (by omega)]
theorem tu_cases (a b c:Int):(a<0)∨(0≤a∧7<a)∨(0≤a∧a≤7∧b<1)∨(0≤a∧a≤7∧1≤b∧32768<b)∨(0≤a∧a≤7∧1≤b∧b≤32768∧c<1)∨(0≤a∧a≤7∧1≤b∧b≤32768∧1≤c∧32768<c)∨(0≤a∧a≤7∧1≤b∧b≤32768∧1≤c∧c≤32768):=by omega
set_option maxRecDepth 100000 in
set_option maxHeartbeats 8000000 in
theorem tcheck_any (l:List Int) (A:Option Addr) (n cp:Nat) (w:World) {B:Nat} (hl:l.length=n) (hr:Rd w B A (l.map (Value.int .i64))) :
 (Calls Tryz.prog 251 #[.slice A n cp] w fun e w'=>e=.returned (.int .i64 (tuC l))∧w=w')∧Calls Tryz.prog 55 #[.slice A n cp] w fun e w'=>e=.returned (.int .i64 (tuC l))∧w=w':=by
 by_cases hn:n=3
 ·subst hn
  obtain ⟨b,o,rfl,hb,c0,hc⟩:=lget hl (by decide) hr
  have c1:=hc 1 (by decide)
  have c2:=hc 2 (by decide)
  have HR:Hid (tuC l=if cf l 0<0∨7<cf l 0 then 10 else if cf l 1<1∨32768<cf l 1∨cf l 2<1∨32768<cf l 2 then 30 else 0):=by
   show _=_;unfold tuC;rw [if_neg (by omega)]
  clear hc hl hr
  generalize cf l 0=x0 at *
  generalize cf l 1=x1 at *
  generalize cf l 2=x2 at *
  constructor
  ·rcases tu_cases x0 x1 x2 with h0|⟨h0,h1⟩|⟨h0,h1,h2⟩|⟨h0,h1,h2,h3⟩|⟨h0,h1,h2,h3,h4⟩|⟨h0,h1,h2,h3,h4,h5⟩|⟨h0,h1,h2,h3,h4,h5⟩
   all_goals
    go_enter Tryz.func251,Tryz.ntmps251
    go_wp2_with fail
    go_ret
    exact ⟨ret_int (by rw [HR.out];first | rw [if_pos (by omega)]|rw [if_neg (by omega),if_pos (by omega)]|rw [if_neg (by omega),if_neg (by omega)]),rfl⟩
  ·rcases tu_cases x0 x1 x2 with h0|⟨h0,h1⟩|⟨h0,h1,h2⟩|⟨h0,h1,h2,h3⟩|⟨h0,h1,h2,h3,h4⟩|⟨h0,h1,h2,h3,h4,h5⟩|⟨h0,h1,h2,h3,h4,h5⟩
   all_goals
    go_enter Tryz.func55,Tryz.ntmps55
    go_wp2_with fail
    go_ret
    exact ⟨ret_int (by rw [HR.out];first | rw [if_pos (by omega)]|rw [if_neg (by omega),if_pos (by omega)]|rw [if_neg (by omega),if_neg (by omega)]),rfl⟩
 ·have HR:Hid (tuC l=12):=by show _=_;unfold tuC;rw [if_pos (by omega)]
  have hnb:((n:Int) != 3)=true:=by rw [bne_iff_ne];omega
  clear hl hn
  constructor
  ·go_enter Tryz.func251,Tryz.ntmps251
   go_wp2_with fail
   all_goals first
    | (go_ret;exact ⟨ret_int HR.out.symm,rfl⟩)
    | (exfalso;omega)
  ·go_enter Tryz.func55,Tryz.ntmps55
   go_wp2_with fail
   all_goals first
    | (go_ret;exact ⟨ret_int HR.out.symm,rfl⟩)
    | (exfalso;omega)
def tuA (l:List Int):Array Value:=#[.int .i64 (cf l 0),.int .i64 (cf l 1),.int .i64 (cf l 2)]
def TuR (l:List Int) (w w':World) (p:Option Addr):Prop :=
 (tuC l≠0→p=none)∧(tuC l=0→∃ g,p=some ⟨g,0,none⟩∧w.heap.size≤g∧Bk w' g 325 (tuA l))
set_option maxRecDepth 100000 in
set_option maxHeartbeats 8000000 in
theorem tnew_any (l:List Int) (A:Option Addr) (n cp:Nat) (w:World) {B:Nat} (hl:l.length=n) (hr:Rd w B A (l.map (Value.int .i64))) (hB:B≤w.heap.size) :
 Calls Tryz.prog 173 #[.slice A n cp] w fun e w'=>∃ p,e=.returned (.tuple #[.pointer p,.int .i64 (tuC l)])∧TuR l w w' p∧Below w.heap.size w w':=by
 have hC:=(tcheck_any l A n cp w hl hr).1
 have hb0:=Below.refl w.heap.size w
 by_cases h1:tuC l=0
 ·have hlen:=(tuC_zero.1 h1).len
  obtain rfl:n=3:=by rw [← hl];exact hlen
  rw [h1] at hC
  simp only [TuR,h1]
  obtain ⟨b,o,rfl,hb,c0,hc⟩:=lget hl (by decide) hr
  have c1:=hc 1 (by decide)
  have c2:=hc 2 (by decide)
  unfold tuA
  clear hc hl hr h1 hlen
  generalize cf l 0=x0 at *
  generalize cf l 1=x1 at *
  generalize cf l 2=x2 at *
  go_enter Tryz.func173,Tryz.ntmps173
  go_wp2_with (go_at_call 251;(with_reducible refine hC.mono ?_);rintro e wa ⟨rfl,rfl⟩)
  go_still_tail 10,(by kernel_rfl)
  change wpList _ _ _ _ _ w.drew
  have hb1:Below w.heap.size w w.drew:=below_drewN hb0 1
  have hK:=Bk.new w.drew 325 #[.int .i64 x0,.int .i64 x1,.int .i64 x2]
  have hb2:=hb1.alloc hb1.size (.cells #[.int .i64 x0,.int .i64 x1,.int .i64 x2] 325)
  clear c0 c1 c2
  go_wp2_with fail
  go_returns
  exact ⟨_,rfl,⟨fun h=>absurd rfl h,fun _=>⟨_,rfl,Nat.le_refl _,hK⟩⟩,hb2⟩
 ·have hb:(tuC l != 0)=true:=by simp [h1]
  have hne:=Lib.hid h1
  simp only [TuR]
  clear h1 hl hr
  generalize tuC l=c at *
  go_enter Tryz.func173,Tryz.ntmps173
  go_wp2_with (go_at_call 251;(with_reducible refine hC.mono ?_);rintro e wa ⟨rfl,rfl⟩)
  go_returns
  exact ⟨none,rfl,⟨fun _=>rfl,fun h=>absurd h hne.out⟩,hb0⟩
def tu0 (q W H x y:Int):Int:=if q%4=1 then y else if q%4=2 then W-x else if q%4=3 then W-y else x
def tuV (q W H x y:Int):Int:=if q%4=1 then H-x else if q%4=2 then H-y else if q%4=3 then x else y
def tuU (q W H x y:Int):Int:=if 3<q then W-tu0 q W H x y else tu0 q W H x y
abbrev quA:Array Value:=#[.func (.func 332) #[] #[],.func (.func 333) #[] #[],.func (.func 334) #[] #[],.func (.func 335) #[] #[]]
theorem qu_size:(Tryz.prog.info? 383).map (·.size)=some 4:=by kernel_rfl
theorem quarters_any (w:World):Calls Tryz.prog 300 #[] w fun e w'=>e=.returned (.agg quA)∧Below w.heap.size w w':=by
 have hbz:=(Below.refl w.heap.size w).alloc (Nat.le_refl _) (.cells #[.nilFunc,.nilFunc,.nilFunc,.nilFunc] 383)
 have hK:=Bk.new w 383 #[.nilFunc,.nilFunc,.nilFunc,.nilFunc]
 go_enter Tryz.func300,Tryz.ntmps300
 go_wp2_with (refine stB (ty:=383) (cells:=quA) rfl _ _ rfl hK rfl rfl qu_size rfl (by simp [Value.oneCell']) ?_;intro w' hK' hg' _)
 refine bodyPost_ret (res_cell rfl hK' rfl Tryz.underlying383 rfl qu_size) rfl ?_
 exact ⟨rfl,below_of_gb hbz hg' (Nat.le_refl _) hbz.size⟩
end Go.Proofs.YtjbelhpgbcnlmaaGreat
end
end
