/- Several texts in one: level: images of a pyramid, and the reference's. sample: what stands at a place. (Printed by wip/tools/gensp14.py.) SamplePixels: sums of bytes, and their mean. -/
import Derived.Test.YtjbelhpgbcnlmaaGreatSamplePixelsZz15
import Derived.Test.YtjbelhpgbcnlmaaGreatSamplePixelsZz17
import Derived.Deep.RegionHeld3
import Derived.BigRegion
section
set_option linter.unusedVariables false
namespace Go.Proofs.YtjbelhpgbcnlmaaGreat
open Go.RowKit
theorem p2_15 (n:Nat) (h:n≤15):(1:Int)≤2^n∧(2:Int)^n≤32768:=by
 have h1:(2:Nat)^n≤2^15:=Nat.pow_le_pow_right (by decide) h
 have h2:1≤(2:Nat)^n:=Nat.one_le_two_pow
 have e:((2:Int)^n)=((2^n:Nat):Int):=by simp
 rw [e];omega
theorem p2_40 (n:Nat) (h:n≤40):(1:Int)≤2^n∧(2:Int)^n≤1099511627776:=by
 have h1:(2:Nat)^n≤2^40:=Nat.pow_le_pow_right (by decide) h
 have h2:1≤(2:Nat)^n:=Nat.one_le_two_pow
 have e:((2:Int)^n)=((2^n:Nat):Int):=by simp
 rw [e];omega
def lvTop (m:Int):Nat:=(min m 15).toNat
def lv (d:Int):Nat→Nat
 | 0=>0
 | n+1=>if 65536*2^(n+1)≤d then n+1 else lv d n
theorem p2_le (i j:Nat) (h:i≤j):(2:Int)^i≤2^j:=by
 have h1:(2:Nat)^i≤2^j:=Nat.pow_le_pow_right (by decide) h
 have e:∀ n:Nat,((2:Int)^n)=((2^n:Nat):Int):=fun n=>by simp
 rw [e,e];omega
theorem lv_eq (d:Int) (M n:Nat) (h1:n≤M) (h2:n=0∨65536*2^n≤d) (h3:n=M∨d<65536*2^(n+1)):lv d M=n:=by
 induction M with
 | zero=>simp [lv];omega
 | succ M ih =>
   rw [lv]
   by_cases e:n=M+1
   ·subst e;rw [if_pos (by rcases h2 with h|h <;> first | omega|exact h)]
   ·have:=p2_le (n+1) (M+1) (by omega)
    rw [if_neg (by omega)];exact ih (by omega) (by omega)
set_option maxHeartbeats 400000 in
theorem lv_pick_any (a b:Int) (w:World) :
 Calls Tryz.prog 96 #[.int .i64 a,.int .i64 b] w fun e w'=>e=.returned (.int .i64 (lv a (lvTop b)))∧w=w':=by
 go_enter Tryz.func96,Tryz.ntmps96
 go_wp2
 go_loop [5] (fun k=>∃ n:Nat,n≤lvTop b∧k=.int .i64 n∧(n=0∨65536*2^n≤a)) (fun k=>lvTop b-(intOf k).toNat)
 case atStart=>exact ⟨0,by omega,rfl,.inl rfl⟩
 case round =>
  obtain ⟨n,hn,rfl,hn2⟩:=hrel
  have hT:lvTop b≤15:=by unfold lvTop;omega
  have hT1:n<lvTop b→n<b:=by unfold lvTop;omega
  have hT2:(n:Int)<b→n<15→n<lvTop b:=by unfold lvTop;omega
  by_cases hlt:n<lvTop b
  ·have hp:=p2_15 (n+1) (by omega)
   have hb:=hT1 hlt
   clear hT1 hT2
   go_wp2
   all_goals first
    | (go_round
       case rel=>exact ⟨n+1,by omega,by go_num,.inr (by omega)⟩
       case measure=>simp [intOf];omega)
    | (go_ret
       exact ⟨ret_int (by rw [lv_eq a (lvTop b) n hn hn2 (.inr (by omega))]),rfl⟩)
  ·have hb:¬(n<b∧n<15):=by omega
   clear hT1 hT2
   go_wp2
   all_goals
    go_ret
    exact ⟨ret_int (by rw [lv_eq a (lvTop b) n hn hn2 (.inl (by omega))]),rfl⟩
set_option maxHeartbeats 400000 in
theorem lv_pow_any (k:Nat) (hk:k≤40) (w:World) :
 Calls Tryz.prog 111 #[.int .i64 k] w fun e w'=>e=.returned (.int .i64 (2^k))∧w=w':=by
 go_enter Tryz.func111,Tryz.ntmps111
 go_wp2
 go_loop [3,4] (fun o k'=>∃ n:Nat,n≤k∧k'=.int .i64 n∧o=.int .i64 (2^n)) (fun _ k'=>k-(intOf k').toNat)
 case atStart=>exact ⟨0,by omega,rfl,rfl⟩
 case round =>
  obtain ⟨n,hn,rfl,rfl⟩:=hrel
  by_cases hlt:n<k
  ·have hp:=p2_40 (n+1) (by omega)
   have he:(2:Int)^(n+1)=2^n*2:=Int.pow_succ 2 n
   have HE:=Lib.hid he;rw [he] at hp;clear he
   go_wp2
   go_round
   case rel=>exact ⟨n+1,by omega,by go_num,by rw [HE.out]⟩
   case measure=>simp [intOf];omega
  ·go_wp2
   go_ret
   exact ⟨ret_int (by rw [show n=k by omega]),rfl⟩
set_option maxHeartbeats 400000 in
theorem lv_cut_any (k:Int) (w:World) :
 Calls Tryz.prog 179 #[.int .i64 k] w fun e w'=>e=.returned (.int .u64 (lvTop k))∧w=w':=by
 go_enter Tryz.func179,Tryz.ntmps179
 go_wp2
 all_goals
  go_ret
  exact ⟨ret_int (by unfold lvTop;omega),rfl⟩
set_option maxHeartbeats 400000 in
theorem lv_rest_any (k:Nat) (hk:k≤15) (w:World) :
 Calls Tryz.prog 180 #[.int .u64 k] w fun e w'=>e=.returned (.int .i64 (32768*(2^k-1)))∧w=w':=by
 have hp:=p2_15 k hk
 go_enter Tryz.func180,Tryz.ntmps180
 go_wp2
 go_ret
 exact ⟨rfl,rfl⟩
theorem lvTop_le (k:Int):lvTop k≤15:=by unfold lvTop;omega
def lvTo (u k:Int):Int:=(u-32768*(2^lvTop k-1))/2^lvTop k
def lvFrom (u k:Int):Int:=u*2^lvTop k+32768*(2^lvTop k-1)
theorem mul_p2_bd (u:Int) (n:Nat) (hn:n≤15) (h0:-70368744177664≤u) (h1:u≤70368744177664):-2305843009213693952≤u*2^n∧u*2^n≤2305843009213693952:=by
 have hp:=p2_15 n hn
 generalize (2:Int)^n=p at *
 constructor
 ·have:(-70368744177664)*p≤u*p:=Int.mul_le_mul_of_nonneg_right h0 (by omega)
  omega
 ·have:u*p≤70368744177664*p:=Int.mul_le_mul_of_nonneg_right h1 (by omega)
  omega
set_option maxHeartbeats 400000 in
theorem lv_to_any (u k:Int) (w:World) (h0:-70368744177664≤u) (h1:u≤70368744177664) :
 Calls Tryz.prog 101 #[.int .i64 u,.int .i64 k] w fun e w'=>e=.returned (.int .i64 (lvTo u k))∧w=w':=by
 have ht:=lvTop_le k
 have hp:=p2_15 _ ht
 go_enter Tryz.func101,Tryz.ntmps101
 go_wp2_with (first
  | (go_at_call 179;refine (lv_cut_any _ _).mono ?_;rintro e w' ⟨rfl,rfl⟩)
  | (go_at_call 180;refine (lv_rest_any _ ht _).mono ?_;rintro e w' ⟨rfl,rfl⟩))
 go_ret
 exact ⟨ret_int (by unfold lvTo;rfl),rfl⟩
set_option maxHeartbeats 400000 in
theorem lv_rcut_any (k:Int) (w:World) :
 Calls Tryz.prog 196 #[.int .i64 k] w fun e w'=>e=.returned (.int .i64 (lvTop k))∧w=w':=by
 go_enter Tryz.func196,Tryz.ntmps196
 go_wp2
 all_goals
  go_ret
  exact ⟨ret_int (by unfold lvTop;omega),rfl⟩
set_option maxHeartbeats 400000 in
theorem lv_rto_any (u k:Int) (w:World) (h0:-70368744177664≤u) (h1:u≤70368744177664) :
 Calls Tryz.prog 121 #[.int .i64 u,.int .i64 k] w fun e w'=>e=.returned (.int .i64 (lvTo u k))∧w=w':=by
 have ht:=lvTop_le k
 have hp:=p2_15 _ ht
 go_enter Tryz.func121,Tryz.ntmps121
 go_wp2_with (first
  | (go_at_call 196;refine (lv_rcut_any _ _).mono ?_;rintro e w' ⟨rfl,rfl⟩)
  | (go_at_call 111;refine (lv_pow_any _ (by omega) _).mono ?_;rintro e w' ⟨rfl,rfl⟩)
  | (go_at_call 185;refine (rdown_any _ _ _ (by omega) (by omega) (by omega)).mono ?_;rintro e w' ⟨rfl,rfl⟩))
 go_ret
 exact ⟨rfl,rfl⟩
set_option maxHeartbeats 400000 in
theorem lv_rpick_any (a b:Int) (w:World) :
 Calls Tryz.prog 57 #[.int .i64 a,.int .i64 b] w fun e w'=>e=.returned (.int .i64 (lv a (lvTop b)))∧w=w':=by
 have hT:=lvTop_le b
 go_enter Tryz.func57,Tryz.ntmps57
 go_wp2
 go_loop [5,6] (fun o k=>∃ n:Nat,n≤lvTop b∧k=.int .i64 (n+1)∧o=.int .i64 (lv a n)) (fun _ k=>16-(intOf k).toNat)
 case atStart=>exact ⟨0,by omega,rfl,rfl⟩
 case round =>
  obtain ⟨n,hn,rfl,rfl⟩:=hrel
  have hT1:n<lvTop b→n<b:=by unfold lvTop;omega
  have hT2:(n:Int)<b→n<15→n<lvTop b:=by unfold lvTop;omega
  by_cases hlt:n<lvTop b
  ·have hp:=p2_15 (n+1) (by omega)
   have hb:=hT1 hlt
   clear hT1 hT2
   go_wp2_with (go_at_call 111;refine (lv_pow_any (n+1) (by omega) _).mono ?_;rintro e w' ⟨rfl,rfl⟩)
   all_goals
    go_round
    case rel=>exact ⟨n+1,by omega,by go_num,by rw [lv];first | rw [if_pos (by assumption)];go_num|rw [if_neg (by omega)]⟩
    case measure=>simp [intOf];omega
  ·have hb:¬(n<b∧n<15):=by omega
   clear hT1 hT2
   go_wp2
   all_goals
    go_ret
    exact ⟨ret_int (by rw [show n=lvTop b by omega]),rfl⟩
theorem lv_mono (d d':Int) (h:d≤d') (M:Nat):lv d M≤lv d' M:=by
 induction M with
 | zero=>simp [lv]
 | succ M ih =>
   have hb:∀ x,lv x (M+1)≤M+1:=fun x=>by
    have:∀ n,lv x n≤n:=fun n=>by induction n with|zero=>simp [lv]|succ n ih=>rw [lv];split <;> omega
    exact this _
   rw [lv,lv]
   have hbd:lv d M≤M:=by
    have:∀ n,lv d n≤n:=fun n=>by induction n with|zero=>simp [lv]|succ n ih=>rw [lv];split <;> omega
    exact this _
   split <;> split <;> omega
theorem toFrom (u k:Int):lvTo (lvFrom u k) k=u:=by
 unfold lvTo lvFrom
 have hp:=p2_15 _ (lvTop_le k)
 generalize (2:Int)^lvTop k=p at *
 rw [Int.add_sub_cancel,Int.mul_ediv_cancel _ (by omega)]
end Go.Proofs.YtjbelhpgbcnlmaaGreat
end
section
set_option linter.unusedVariables false
namespace Go.Proofs.YtjbelhpgbcnlmaaGreat
open Go.RowKit
theorem lvTo_bd {u:Int} (k:Int) (h:-70368744177664≤u∧u≤70368744177664):-70368744177664≤lvTo u k∧lvTo u k≤70368744177664:=by
 unfold lvTo
 have hp:=p2_15 (lvTop k) (lvTop_le k)
 generalize (2:Int)^lvTop k=p at *
 obtain ⟨h1,h2⟩:=hp
 constructor
 ·refine Int.le_ediv_of_mul_le (by omega) ?_
  have:70368744177664*1≤70368744177664*p:=Int.mul_le_mul_of_nonneg_left h1 (by omega)
  have e:-70368744177664*p=-(70368744177664*p):=Int.neg_mul _ _
  rw [e]
  rcases Int.lt_or_le 1 p with hp2|hp2
  ·have:70368744177664*2≤70368744177664*p:=Int.mul_le_mul_of_nonneg_left (by omega) (by omega)
   omega
  ·obtain rfl:p=1:=by omega
   omega
 ·have h3:(u-32768*(p-1))/p≤70368744177664:=by
   refine Int.le_of_lt_add_one (Int.ediv_lt_of_lt_mul (by omega) ?_)
   have:70368744177665*1≤(70368744177664+1)*p:=Int.mul_le_mul_of_nonneg_left h1 (by omega)
   omega
  exact h3
theorem far_any (u:Int) (w:World):Calls Tryz.prog 99 #[.int .i64 u] w fun e w'=>e=.returned (.bool (!inF u))∧w=w':=by
 by_cases h1:u < -70368744177664
 ·have HF:Hid ((!inF u)=true):=by show _=_;unfold inF;simp;omega
  go_enter Tryz.func99,Tryz.ntmps99
  go_wp2
  go_ret
  exact ⟨by rw [HF.out];rfl,rfl⟩
 ·by_cases h2:70368744177664<u
  ·have HF:Hid ((!inF u)=true):=by show _=_;unfold inF;simp;omega
   go_enter Tryz.func99,Tryz.ntmps99
   go_wp2
   go_ret
   exact ⟨by rw [HF.out];rfl,rfl⟩
  ·have HF:Hid ((!inF u)=false):=by show _=_;unfold inF;simp;omega
   go_enter Tryz.func99,Tryz.ntmps99
   go_wp2
   go_ret
   exact ⟨by rw [HF.out];rfl,rfl⟩
theorem smat_nil (k u v:Int) (w:World):Calls Tryz.prog 49 #[.pointer none,.int .i64 k,.int .i64 u,.int .i64 v] w fun e w'=>e=.returned (.tuple #[.slice none 0 0,.int .i64 10])∧w=w':=by
 go_enter Tryz.func49,Tryz.ntmps49
 go_wp2_with fail
 go_returns
 exact ⟨rfl,rfl⟩
set_option maxRecDepth 100000 in
set_option maxHeartbeats 8000000 in
theorem smat_out {ims:List Im} {A:Option Addr} {n c lo g:Nat} {w:World} (nm fb fr:Value) (nn:Int) (sup:Bool) (mo c0 c1 c2 c3 u v:Int) (hK:Bk w g 95 (samA (.slice A n c) nm fb fr nn sup mo c0 c1 c2 c3)) (k:Int) (h:k<0∨(n:Int)≤k) :
 Calls Tryz.prog 49 #[.pointer (some ⟨g,0,none⟩),.int .i64 k,.int .i64 u,.int .i64 v] w fun e w'=>e=.returned (.tuple #[.slice none 0 0,.int .i64 11])∧Below w.heap.size w w':=by
 have hq:=fun w=>eql_src (.slice A n c) w
 have hM:=fun (v:Value) (w:World)=>me_size v w
 have hS:=fun w'=>size_out k A n c w' h
 have d0:=(hK.cell 0).trans (show _=some (.iface 86 (.slice A n c)) from rfl)
 have hb:=Below.refl w.heap.size w
 clear h hK
 go_enter Tryz.func49,Tryz.ntmps49
 go_wp2_with (go_at_call 372;(with_reducible refine (hS _).mono ?_);rintro e w1 ⟨rfl,rfl⟩)
 go_returns
 exact ⟨rfl,hb⟩
set_option maxRecDepth 100000 in
set_option maxHeartbeats 8000000 in
theorem smat_far {ims:List Im} {A:Option Addr} {n c lo g:Nat} {w:World} (hn:ims.length=n) (hA:ImsAt w lo A ims) (nm fb fr:Value) (nn:Int) (sup:Bool) (mo c0 c1 c2 c3 u v:Int) (hK:Bk w g 95 (samA (.slice A n c) nm fb fr nn sup mo c0 c1 c2 c3)) (k:Nat) (hk:k<ims.length) (hck:checkC ims[k].W ims[k].H ims[k].C ims[k].px.length=0) (h:inF u=false∨inF v=false) :
 Calls Tryz.prog 49 #[.pointer (some ⟨g,0,none⟩),.int .i64 k,.int .i64 u,.int .i64 v] w fun e w'=>e=.returned (.tuple #[.slice none 0 0,.int .i64 11])∧Below w.heap.size w w':=by
 obtain ⟨hf,hl⟩:=ck_parts hck
 obtain ⟨hc,hw1,hw2,hh1,hh2,hp⟩:=fitsC_ok hf
 have hq:=fun w=>eql_src (.slice A n c) w
 have hM:=fun (v:Value) (w:World)=>me_size v w
 have hS:=size_in (c:=c) hn hA k hk
 have d0:=(hK.cell 0).trans (show _=some (.iface 86 (.slice A n c)) from rfl)
 have hb:=Below.refl w.heap.size w
 have hw0:(ims[k].W==0)=false:=by simp;omega
 have hU:=fun w'=>far_any u w'
 have hV:=fun w'=>far_any v w'
 clear hK hA hck hf hl hc hp hh1 hh2 hw1 hw2
 generalize ims[k].W=W at *
 generalize ims[k].H=H at *
 clear hk hn
 cases hiu:inF u with
 | false =>
   rw [hiu] at hU
   clear h hV
   go_enter Tryz.func49,Tryz.ntmps49
   go_wp2_with (first
    | (go_at_call 372;(with_reducible refine hS.mono ?_);rintro e w1 ⟨rfl,q,rfl⟩)
    | (go_at_call 99;(with_reducible refine (hU _).mono ?_);rintro e w1 ⟨rfl,rfl⟩))
   go_returns
   exact ⟨rfl,below_drewN hb q⟩
 | true =>
   have hiv:inF v=false:=by rcases h with h|h <;> simp_all
   rw [hiu] at hU
   rw [hiv] at hV
   clear h
   go_enter Tryz.func49,Tryz.ntmps49
   go_wp2_with (first
    | (go_at_call 372;(with_reducible refine hS.mono ?_);rintro e w1 ⟨rfl,q,rfl⟩)
    | (go_at_call 99;(with_reducible refine (hU _).mono ?_);rintro e w1 ⟨rfl,rfl⟩)
    | (go_at_call 99;(with_reducible refine (hV _).mono ?_);rintro e w1 ⟨rfl,rfl⟩))
   go_returns
   exact ⟨rfl,below_drewN hb q⟩
theorem keepS {w1 w':World} {g:Nat} {a b:Value} (h0:w1.cell? ⟨g,0,none⟩=some a) (h2:w1.cell? ⟨g,2,none⟩=some b) (hg:g<w1.heap.size) (hb:Below w1.heap.size w1 w'):w'.cell? ⟨g,0,none⟩=some a∧w'.cell? ⟨g,2,none⟩=some b∧Below w1.heap.size w1 w' :=
 ⟨(hb.cell (by exact hg)).trans h0,(hb.cell (by exact hg)).trans h2,hb⟩
set_option maxRecDepth 100000 in
set_option maxHeartbeats 16000000 in
theorem smat_near {ims:List Im} {A:Option Addr} {n c lo g:Nat} {w:World} (hn:ims.length=n) (hA:ImsAt w lo A ims) (nm fr:Value) (nn:Int) (sup:Bool) (mo c0 c1 c2 c3 u v:Int) (hK:Bk w g 95 (samA (.slice A n c) nm (.func (.func 83) #[] #[]) fr nn sup mo c0 c1 c2 c3)) (k:Nat) (hk:k<ims.length) (hck:checkC ims[k].W ims[k].H ims[k].C ims[k].px.length=0) (C:Nat) (hC:(im0 ims).C=C)
 (hu:-70368744177664≤u∧u≤70368744177664) (hv:-70368744177664≤v∧v≤70368744177664) (L:List Int)
 (hBy:∀ w',Below w.heap.size w w'→Calls Tryz.prog 83 #[getV (.slice A n c) k ims[k].W ims[k].H mo c0 c1 c2 c3,.int .i64 C,.int .i64 (lvTo u k),.int .i64 (lvTo v k)] w' (OwnU L w')) :
 Calls Tryz.prog 49 #[.pointer (some ⟨g,0,none⟩),.int .i64 k,.int .i64 u,.int .i64 v] w fun e w'=>∃ s,e=.returned (.tuple #[s,.int .i64 0])∧w'.ownsRow w.heap.size 5 1 s L.length (L.map (Value.int .u8))∧Below w.heap.size w w':=by
 obtain ⟨hf,hl⟩:=ck_parts hck
 obtain ⟨hc,hw1,hw2,hh1,hh2,hp⟩:=fitsC_ok hf
 have hq:=fun w=>eql_src (.slice A n c) w
 have hM:=fun (v:Value) (w:World)=>me_size v w
 have hM2:=fun (v:Value) (w:World)=>me_channels v w
 have hS:=size_in (c:=c) hn hA k hk
 have hCh:=fun (w':World) (hb:Below w.heap.size w w')=>channels_any (c:=c) hn (hA.nx hb (Nat.le_refl _)) (by omega)
 rw [hC] at hCh
 have hb:=Below.refl w.heap.size w
 have hw0:(ims[k].W==0)=false:=by simp;omega
 have hU:=fun w'=>far_any u w'
 have hV:=fun w'=>far_any v w'
 have hT1:=fun w'=>lv_to_any u k w' hu.1 hu.2
 have hT2:=fun w'=>lv_to_any v k w' hv.1 hv.2
 rw [inF_iff.2 hu] at hU
 rw [inF_iff.2 hv] at hV
 clear hA hck hf hl hc hp hh1 hh2 hw1 hw2 hu hv
 generalize ims[k].W=W at *
 generalize ims[k].H=H at *
 clear hk hn hC
 generalize lvTo u k=u1 at *
 generalize lvTo v k=v1 at *
 have d0:=(hK.cell 0).trans (show _=some (.iface 86 (.slice A n c)) from rfl)
 have d2:=(hK.cell 2).trans (show _=some (.func (.func 83) #[] #[]) from rfl)
 have d6:=(hK.cell 6).trans (show _=some (.int .i64 mo) from rfl)
 have d7:=(hK.cell 7).trans (show _=some (.int .u8 c0) from rfl)
 have d8:=(hK.cell 8).trans (show _=some (.int .u8 c1) from rfl)
 have d9:=(hK.cell 9).trans (show _=some (.int .u8 c2) from rfl)
 have d10:=(hK.cell 10).trans (show _=some (.int .u8 c3) from rfl)
 have hlg:=hK.lt
 clear hK
 go_enter Tryz.func49,Tryz.ntmps49
 go_upto_region 6 with (first
  | (go_at_call 372;(with_reducible refine hS.mono ?_);rintro e w1 ⟨rfl,q,rfl⟩)
  | (go_at_call 99;(with_reducible refine (hU _).mono ?_);rintro e w1 ⟨rfl,rfl⟩)
  | (go_at_call 99;(with_reducible refine (hV _).mono ?_);rintro e w1 ⟨rfl,rfl⟩))
 go_quiet (fail)
 go_wp2_with fail
 have hb5:Below w.heap.size w ((w.drewN q).drewN nq):=below_drewN (below_drewN hb q) nq
 have e0:((w.drewN q).drewN nq).cell? ⟨g,0,none⟩=some (.iface 86 (.slice A n c)):=d0
 have e2:((w.drewN q).drewN nq).cell? ⟨g,2,none⟩=some (.func (.func 83) #[] #[]):=d2
 have hlg5:g<((w.drewN q).drewN nq).heap.size:=hlg
 have HZ:Hid (((w.drewN q).drewN nq).heap.size=w.heap.size):=rfl
 clear d0 d2 d6 d7 d8 d9 d10 hlg hS hU hV hM hb hq
 generalize (w.drewN q).drewN nq=w5 at *
 go_region_held3 (fun w'=>w'.cell? ⟨g,0,none⟩=some (.iface 86 (.slice A n c))∧w'.cell? ⟨g,2,none⟩=some (.func (.func 83) #[] #[])∧Below w5.heap.size w5 w')
  (first | with_reducible exact keepS e0 e2 hlg5 hB7|(refine keepS e0 e2 hlg5 ?_;go_grown))
  (first
    | (go_at_call 369;(with_reducible refine (hCh _ (by first | exact hb5|exact hb5.drew|exact hb5.drew.drew)).mono ?_);rintro e w1 ⟨rfl,rfl⟩)
    | (go_at_call 101;(with_reducible refine (hT1 _).mono ?_);rintro e w1 ⟨rfl,rfl⟩)
    | (go_at_call 101;(with_reducible refine (hT2 _).mono ?_);rintro e w1 ⟨rfl,rfl⟩)
    | (go_at_call 83;(with_reducible refine (hBy _ (by first | exact hb5|exact hb5.drew|exact hb5.drew.drew)).mono ?_);rintro e w7 ⟨s7,rfl,ho7,hb7⟩;have hB7:Below w5.heap.size w5 w7:=Below.trans (by go_grown) hb7))
 all_goals
  rename_i hHeld
  clear hHeld
  go_wp2_with fail
  go_returns
  have hz:=HZ.out
  exact ⟨_,rfl,own_base ho7 (by first | exact Nat.le_of_eq hz.symm|(show w.heap.size≤w5.heap.size;omega)),hb5.trans (hB7.mono (by omega))⟩
set_option maxRecDepth 100000 in
set_option maxHeartbeats 16000000 in
theorem smat_linear {ims:List Im} {A:Option Addr} {n c lo g:Nat} {w:World} (hn:ims.length=n) (hA:ImsAt w lo A ims) (nm fr:Value) (nn:Int) (sup:Bool) (mo c0 c1 c2 c3 u v:Int) (hK:Bk w g 95 (samA (.slice A n c) nm (.func (.func 85) #[] #[]) fr nn sup mo c0 c1 c2 c3)) (k:Nat) (hk:k<ims.length) (hck:checkC ims[k].W ims[k].H ims[k].C ims[k].px.length=0) (C:Nat) (hC:(im0 ims).C=C)
 (hu:-70368744177664≤u∧u≤70368744177664) (hv:-70368744177664≤v∧v≤70368744177664) (L:List Int)
 (hBy:∀ w',Below w.heap.size w w'→Calls Tryz.prog 85 #[getV (.slice A n c) k ims[k].W ims[k].H mo c0 c1 c2 c3,.int .i64 C,.int .i64 (lvTo u k),.int .i64 (lvTo v k)] w' (OwnU L w')) :
 Calls Tryz.prog 49 #[.pointer (some ⟨g,0,none⟩),.int .i64 k,.int .i64 u,.int .i64 v] w fun e w'=>∃ s,e=.returned (.tuple #[s,.int .i64 0])∧w'.ownsRow w.heap.size 5 1 s L.length (L.map (Value.int .u8))∧Below w.heap.size w w':=by
 obtain ⟨hf,hl⟩:=ck_parts hck
 obtain ⟨hc,hw1,hw2,hh1,hh2,hp⟩:=fitsC_ok hf
 have hq:=fun w=>eql_src (.slice A n c) w
 have hM:=fun (v:Value) (w:World)=>me_size v w
 have hM2:=fun (v:Value) (w:World)=>me_channels v w
 have hS:=size_in (c:=c) hn hA k hk
 have hCh:=fun (w':World) (hb:Below w.heap.size w w')=>channels_any (c:=c) hn (hA.nx hb (Nat.le_refl _)) (by omega)
 rw [hC] at hCh
 have hb:=Below.refl w.heap.size w
 have hw0:(ims[k].W==0)=false:=by simp;omega
 have hU:=fun w'=>far_any u w'
 have hV:=fun w'=>far_any v w'
 have hT1:=fun w'=>lv_to_any u k w' hu.1 hu.2
 have hT2:=fun w'=>lv_to_any v k w' hv.1 hv.2
 rw [inF_iff.2 hu] at hU
 rw [inF_iff.2 hv] at hV
 clear hA hck hf hl hc hp hh1 hh2 hw1 hw2 hu hv
 generalize ims[k].W=W at *
 generalize ims[k].H=H at *
 clear hk hn hC
 generalize lvTo u k=u1 at *
 generalize lvTo v k=v1 at *
 have d0:=(hK.cell 0).trans (show _=some (.iface 86 (.slice A n c)) from rfl)
 have d2:=(hK.cell 2).trans (show _=some (.func (.func 85) #[] #[]) from rfl)
 have d6:=(hK.cell 6).trans (show _=some (.int .i64 mo) from rfl)
 have d7:=(hK.cell 7).trans (show _=some (.int .u8 c0) from rfl)
 have d8:=(hK.cell 8).trans (show _=some (.int .u8 c1) from rfl)
 have d9:=(hK.cell 9).trans (show _=some (.int .u8 c2) from rfl)
 have d10:=(hK.cell 10).trans (show _=some (.int .u8 c3) from rfl)
 have hlg:=hK.lt
 clear hK
 go_enter Tryz.func49,Tryz.ntmps49
 go_upto_region 6 with (first
  | (go_at_call 372;(with_reducible refine hS.mono ?_);rintro e w1 ⟨rfl,q,rfl⟩)
  | (go_at_call 99;(with_reducible refine (hU _).mono ?_);rintro e w1 ⟨rfl,rfl⟩)
  | (go_at_call 99;(with_reducible refine (hV _).mono ?_);rintro e w1 ⟨rfl,rfl⟩))
 go_quiet (fail)
 go_wp2_with fail
 have hb5:Below w.heap.size w ((w.drewN q).drewN nq):=below_drewN (below_drewN hb q) nq
 have e0:((w.drewN q).drewN nq).cell? ⟨g,0,none⟩=some (.iface 86 (.slice A n c)):=d0
 have e2:((w.drewN q).drewN nq).cell? ⟨g,2,none⟩=some (.func (.func 85) #[] #[]):=d2
 have hlg5:g<((w.drewN q).drewN nq).heap.size:=hlg
 have HZ:Hid (((w.drewN q).drewN nq).heap.size=w.heap.size):=rfl
 clear d0 d2 d6 d7 d8 d9 d10 hlg hS hU hV hM hb hq
 generalize (w.drewN q).drewN nq=w5 at *
 go_region_held3 (fun w'=>w'.cell? ⟨g,0,none⟩=some (.iface 86 (.slice A n c))∧w'.cell? ⟨g,2,none⟩=some (.func (.func 85) #[] #[])∧Below w5.heap.size w5 w')
  (first | with_reducible exact keepS e0 e2 hlg5 hB7|(refine keepS e0 e2 hlg5 ?_;go_grown))
  (first
    | (go_at_call 369;(with_reducible refine (hCh _ (by first | exact hb5|exact hb5.drew|exact hb5.drew.drew)).mono ?_);rintro e w1 ⟨rfl,rfl⟩)
    | (go_at_call 101;(with_reducible refine (hT1 _).mono ?_);rintro e w1 ⟨rfl,rfl⟩)
    | (go_at_call 101;(with_reducible refine (hT2 _).mono ?_);rintro e w1 ⟨rfl,rfl⟩)
    | (go_at_call 85;(with_reducible refine (hBy _ (by first | exact hb5|exact hb5.drew|exact hb5.drew.drew)).mono ?_);rintro e w7 ⟨s7,rfl,ho7,hb7⟩;have hB7:Below w5.heap.size w5 w7:=Below.trans (by go_grown) hb7))
 all_goals
  rename_i hHeld
  clear hHeld
  go_wp2_with fail
  go_returns
  have hz:=HZ.out
  exact ⟨_,rfl,own_base ho7 (by first | exact Nat.le_of_eq hz.symm|(show w.heap.size≤w5.heap.size;omega)),hb5.trans (hB7.mono (by omega))⟩
set_option maxRecDepth 100000 in
set_option maxHeartbeats 16000000 in
theorem smat_cubic {ims:List Im} {A:Option Addr} {n c lo g:Nat} {w:World} (hn:ims.length=n) (hA:ImsAt w lo A ims) (nm fr:Value) (nn:Int) (sup:Bool) (mo c0 c1 c2 c3 u v:Int) (hK:Bk w g 95 (samA (.slice A n c) nm (.func (.func 87) #[] #[]) fr nn sup mo c0 c1 c2 c3)) (k:Nat) (hk:k<ims.length) (hck:checkC ims[k].W ims[k].H ims[k].C ims[k].px.length=0) (C:Nat) (hC:(im0 ims).C=C)
 (hu:-70368744177664≤u∧u≤70368744177664) (hv:-70368744177664≤v∧v≤70368744177664) (L:List Int)
 (hBy:∀ w',Below w.heap.size w w'→Calls Tryz.prog 87 #[getV (.slice A n c) k ims[k].W ims[k].H mo c0 c1 c2 c3,.int .i64 C,.int .i64 (lvTo u k),.int .i64 (lvTo v k)] w' (OwnU L w')) :
 Calls Tryz.prog 49 #[.pointer (some ⟨g,0,none⟩),.int .i64 k,.int .i64 u,.int .i64 v] w fun e w'=>∃ s,e=.returned (.tuple #[s,.int .i64 0])∧w'.ownsRow w.heap.size 5 1 s L.length (L.map (Value.int .u8))∧Below w.heap.size w w':=by
 obtain ⟨hf,hl⟩:=ck_parts hck
 obtain ⟨hc,hw1,hw2,hh1,hh2,hp⟩:=fitsC_ok hf
 have hq:=fun w=>eql_src (.slice A n c) w
 have hM:=fun (v:Value) (w:World)=>me_size v w
 have hM2:=fun (v:Value) (w:World)=>me_channels v w
 have hS:=size_in (c:=c) hn hA k hk
 have hCh:=fun (w':World) (hb:Below w.heap.size w w')=>channels_any (c:=c) hn (hA.nx hb (Nat.le_refl _)) (by omega)
 rw [hC] at hCh
 have hb:=Below.refl w.heap.size w
 have hw0:(ims[k].W==0)=false:=by simp;omega
 have hU:=fun w'=>far_any u w'
 have hV:=fun w'=>far_any v w'
 have hT1:=fun w'=>lv_to_any u k w' hu.1 hu.2
 have hT2:=fun w'=>lv_to_any v k w' hv.1 hv.2
 rw [inF_iff.2 hu] at hU
 rw [inF_iff.2 hv] at hV
 clear hA hck hf hl hc hp hh1 hh2 hw1 hw2 hu hv
 generalize ims[k].W=W at *
 generalize ims[k].H=H at *
 clear hk hn hC
 generalize lvTo u k=u1 at *
 generalize lvTo v k=v1 at *
 have d0:=(hK.cell 0).trans (show _=some (.iface 86 (.slice A n c)) from rfl)
 have d2:=(hK.cell 2).trans (show _=some (.func (.func 87) #[] #[]) from rfl)
 have d6:=(hK.cell 6).trans (show _=some (.int .i64 mo) from rfl)
 have d7:=(hK.cell 7).trans (show _=some (.int .u8 c0) from rfl)
 have d8:=(hK.cell 8).trans (show _=some (.int .u8 c1) from rfl)
 have d9:=(hK.cell 9).trans (show _=some (.int .u8 c2) from rfl)
 have d10:=(hK.cell 10).trans (show _=some (.int .u8 c3) from rfl)
 have hlg:=hK.lt
 clear hK
 go_enter Tryz.func49,Tryz.ntmps49
 go_upto_region 6 with (first
  | (go_at_call 372;(with_reducible refine hS.mono ?_);rintro e w1 ⟨rfl,q,rfl⟩)
  | (go_at_call 99;(with_reducible refine (hU _).mono ?_);rintro e w1 ⟨rfl,rfl⟩)
  | (go_at_call 99;(with_reducible refine (hV _).mono ?_);rintro e w1 ⟨rfl,rfl⟩))
 go_quiet (fail)
 go_wp2_with fail
 have hb5:Below w.heap.size w ((w.drewN q).drewN nq):=below_drewN (below_drewN hb q) nq
 have e0:((w.drewN q).drewN nq).cell? ⟨g,0,none⟩=some (.iface 86 (.slice A n c)):=d0
 have e2:((w.drewN q).drewN nq).cell? ⟨g,2,none⟩=some (.func (.func 87) #[] #[]):=d2
 have hlg5:g<((w.drewN q).drewN nq).heap.size:=hlg
 have HZ:Hid (((w.drewN q).drewN nq).heap.size=w.heap.size):=rfl
 clear d0 d2 d6 d7 d8 d9 d10 hlg hS hU hV hM hb hq
 generalize (w.drewN q).drewN nq=w5 at *
 go_region_held3 (fun w'=>w'.cell? ⟨g,0,none⟩=some (.iface 86 (.slice A n c))∧w'.cell? ⟨g,2,none⟩=some (.func (.func 87) #[] #[])∧Below w5.heap.size w5 w')
  (first | with_reducible exact keepS e0 e2 hlg5 hB7|(refine keepS e0 e2 hlg5 ?_;go_grown))
  (first
    | (go_at_call 369;(with_reducible refine (hCh _ (by first | exact hb5|exact hb5.drew|exact hb5.drew.drew)).mono ?_);rintro e w1 ⟨rfl,rfl⟩)
    | (go_at_call 101;(with_reducible refine (hT1 _).mono ?_);rintro e w1 ⟨rfl,rfl⟩)
    | (go_at_call 101;(with_reducible refine (hT2 _).mono ?_);rintro e w1 ⟨rfl,rfl⟩)
    | (go_at_call 87;(with_reducible refine (hBy _ (by first | exact hb5|exact hb5.drew|exact hb5.drew.drew)).mono ?_);rintro e w7 ⟨s7,rfl,ho7,hb7⟩;have hB7:Below w5.heap.size w5 w7:=Below.trans (by go_grown) hb7))
 all_goals
  rename_i hHeld
  clear hHeld
  go_wp2_with fail
  go_returns
  have hz:=HZ.out
  exact ⟨_,rfl,own_base ho7 (by first | exact Nat.le_of_eq hz.symm|(show w.heap.size≤w5.heap.size;omega)),hb5.trans (hB7.mono (by omega))⟩
end Go.Proofs.YtjbelhpgbcnlmaaGreat
end
section
set_option linter.unusedVariables false
namespace Go.Proofs.YtjbelhpgbcnlmaaGreat
open Go.RowKit
def fnA (C:Nat) (s:Nat→Int):Array Value:=((List.range C).map fun j=>Value.int .i64 (s j)).toArray
theorem fnA_get {C:Nat} (s:Nat→Int) {j:Nat} (h:j<C):(fnA C s)[j]?=some (.int .i64 (s j)):=by
 unfold fnA
 simp [List.getElem?_range h]
theorem fnA_ext {C:Nat} {s t:Nat→Int} (h:∀ j,j<C→s j=t j):fnA C s=fnA C t:=by
 unfold fnA
 congr 1
 refine List.map_congr_left fun j hj=>?_
 rw [h j (List.mem_range.1 hj)]
theorem fnA_set {C:Nat} (s:Nat→Int) {k:Nat} (z:Int):(fnA C s).setIfInBounds k (.int .i64 z)=fnA C (fun j=>if j=k then z else s j):=by
 unfold fnA
 apply Array.toList_inj.1
 rw [Array.toList_setIfInBounds]
 refine List.ext_getElem (by simp) fun i h1 h2=>?_
 simp only [List.getElem_set,List.getElem_map,List.getElem_range]
 by_cases h:k=i
 ·rw [if_pos h,if_pos h.symm]
 ·rw [if_neg h,if_neg (fun e=>h e.symm)]
theorem fnA_zero (C:Nat):Array.replicate C (Value.int .i64 0)=fnA C (fun _=>0):=by
 unfold fnA
 apply Array.toList_inj.1
 simp
 refine List.ext_getElem (by simp) fun i h1 h2=>?_
 simp
theorem sums_info:(Tryz.prog.info? 3).map (fun i=>(i.zero,i.size,i.bytes))=some (some (.int .i64 0),1,8):=by kernel_rfl
set_option maxRecDepth 100000 in
set_option maxHeartbeats 8000000 in
theorem sadd_any (C g:Nat) (s:Nat→Int) (L:List Int) (A:Option Addr) (c:Nat) (w:World) (hL:L.length=C) (hC:C≤4) (hK:Bk w g 3 (fnA C s)) (hr:RdL w (g+1) A (L.map (Value.int .u8))) (hs:∀ j,0≤s j∧s j≤1000000000) (hb:∀ j,0≤L.getD j 0∧L.getD j 0≤255) :
 Calls Tryz.prog 97 #[.slice (some ⟨g,0,none⟩) C C,.slice A C c] w fun e w'=>e=.returned (.tuple #[])∧Bk w' g 3 (fnA C (fun j=>s j+L.getD j 0))∧w.grownBy w' (some g):=by
 have HS:=Lib.hid hs
 have HB:=Lib.hid hb
 have HL:=Lib.hid hL
 clear hs hb hL
 go_enter Tryz.func97,Tryz.ntmps97
 go_wp2_with fail
 go_loopw [8] (fun i wr=>∃ k:Nat,i=.int .i64 k∧k≤C∧Bk wr g 3 (fnA C (fun j=>if j<k then s j+L.getD j 0 else s j))∧w.grownBy wr (some g)) (fun i _=>C-(intOf i).toNat)
 case atStart=>exact ⟨0,rfl,by omega,by simpa using hK,World.grownBy.refl w _⟩
 case round =>
  obtain ⟨k,rfl,hk,hKr,hgr⟩:=hrel
  by_cases hlt:k<C
  ·obtain ⟨b,o,rfl,hgb,hbw,hcc⟩:=hr k (by rw [List.length_map,HL.out];exact hlt)
   have hz:(L.map (Value.int .u8))[k]'(by rw [List.length_map,HL.out];exact hlt)=.int .u8 (L.getD k 0):=by
    rw [List.getElem_map,List.getD_eq_getElem?_getD,List.getElem?_eq_getElem (by rw [HL.out];exact hlt)];rfl
   rw [hz] at hcc
   have hc1:wr.cell? ⟨b,o+k,none⟩=some (.int .u8 (L.getD k 0)):=(World.cell?_of_block (hgr.block b hbw (fun e=>by injection e with e;omega))).trans hcc
   have hc2:wr.cell? ⟨g,k,none⟩=some (.int .i64 (s k)):=by
    rw [hKr.cell k,fnA_get _ hlt,if_neg (Nat.lt_irrefl k)]
   have hf:=hKr.frozen k
   have b1:=HB.out k
   have b2:=HS.out k
   have hset:fnA C (fun j=>if j<k+1 then s j+L.getD j 0 else s j)=(fnA C (fun j=>if j<k then s j+L.getD j 0 else s j)).setIfInBounds k (.int .i64 (s k+L.getD k 0)):=by
    rw [fnA_set]
    refine fnA_ext fun j _=>?_
    by_cases e:j=k
    ·subst e;rw [if_pos (by omega),if_pos rfl]
    ·rw [if_neg e]
     by_cases e2:j<k
     ·rw [if_pos (by omega),if_pos e2]
     ·rw [if_neg (by omega),if_neg e2]
   have HSET:=Lib.hid hset
   clear hz hcc hset
   generalize hZ:L.getD k 0=Z at *
   generalize hsk:s k=sk at *
   have HZ:=Lib.hid hZ
   have HK:=Lib.hid hsk
   clear hZ hsk
   have g1:wrap64 Z=Z:=IntWalk.wrap64_in _ ⟨by omega,by omega⟩
   have g2:wrap64 (sk+Z)=sk+Z:=IntWalk.wrap64_in _ ⟨by omega,by omega⟩
   go_wp2_with fail
   exact ⟨⟨k+1,by go_num,by omega,by rw [HSET.out];exact hKr.set k _,gb_setCell hgr (.inl rfl) _⟩,by simp [intOf];omega⟩
  ·obtain rfl:k=C:=by omega
   go_wp2_with fail
   go_returns
   refine ⟨rfl,?_,hgr⟩
   rw [fnA_ext (t:=fun j=>if j<k then s j+L.getD j 0 else s j) (fun j hj=>(if_pos hj).symm)]
   exact hKr
def fnU (C:Nat) (s:Nat→Int):Array Value:=((List.range C).map fun j=>Value.int .u8 (s j)).toArray
theorem fnU_ext {C:Nat} {s t:Nat→Int} (h:∀ j,j<C→s j=t j):fnU C s=fnU C t:=by
 unfold fnU
 congr 1
 refine List.map_congr_left fun j hj=>?_
 rw [h j (List.mem_range.1 hj)]
theorem fnU_set {C:Nat} (s:Nat→Int) {k:Nat} (z:Int):(fnU C s).setIfInBounds k (.int .u8 z)=fnU C (fun j=>if j=k then z else s j):=by
 unfold fnU
 apply Array.toList_inj.1
 rw [Array.toList_setIfInBounds]
 refine List.ext_getElem (by simp) fun i h1 h2=>?_
 simp only [List.getElem_set,List.getElem_map,List.getElem_range]
 by_cases h:k=i
 ·rw [if_pos h,if_pos h.symm]
 ·rw [if_neg h,if_neg (fun e=>h e.symm)]
theorem fnU_get {C:Nat} (s:Nat→Int) {j:Nat} (h:j<C):(fnU C s)[j]?=some (.int .u8 (s j)):=by
 unfold fnU
 simp [List.getElem?_range h]
theorem fnU_zero (C:Nat):Array.replicate C (Value.int .u8 0)=fnU C (fun _=>0):=by
 unfold fnU
 apply Array.toList_inj.1
 simp
 refine List.ext_getElem (by simp) fun i h1 h2=>?_
 simp
def meanZ (s q:Int):Int:=(2*s+q)/(2*q)
theorem meanZ_bd {s q:Int} (hq:1≤q) (h:0≤s∧s≤255*q):0≤meanZ s q∧meanZ s q≤255:=by
 unfold meanZ
 constructor
 ·exact Int.ediv_nonneg (by omega) (by omega)
 ·refine Int.le_of_lt_add_one (Int.ediv_lt_of_lt_mul (by omega) ?_)
  have:(255+1)*(2*q)=512*q:=by omega
  omega
set_option maxRecDepth 100000 in
set_option maxHeartbeats 8000000 in
theorem smean_any (C g:Nat) (s:Nat→Int) (q:Int) (w:World) (hC:C≤4) (hK:Bk w g 3 (fnA C s)) (hq:1≤q∧q≤4096) (hs:∀ j,0≤s j∧s j≤255*q) :
 Calls Tryz.prog 98 #[.slice (some ⟨g,0,none⟩) C C,.int .i64 q] w fun e w'=>∃ v,e=.returned v∧w'.ownsRow w.heap.size 5 1 v C (((List.range C).map fun j=>meanZ (s j) q).map (Value.int .u8))∧Below w.heap.size w w':=by
 have HS:=Lib.hid hs
 have HM:=Lib.hid (fun j=>meanZ_bd hq.1 (hs j))
 have hmk:=run_make1 (P:=Tryz.prog) Tryz.underlying22 u8_info rfl (C:Int) C rfl (by omega) (by omega)
 have hgl:=hK.lt
 obtain ⟨hq0,hq1⟩:=hq
 clear hs
 go_enter Tryz.func98,Tryz.ntmps98
 go_wp2_with fail
 go_loopw [13] (fun i wr=>∃ k:Nat,i=.int .i64 k∧k≤C∧Bk wr w.heap.size 5 (fnU C (fun j=>if j<k then meanZ (s j) q else 0))∧Below w.heap.size w wr) (fun i _=>C-(intOf i).toNat)
 case atStart=>exact ⟨0,rfl,by omega,by simpa [fnU_zero] using Bk.new w 5 (Array.replicate C (Value.int .u8 0)),(Below.refl _ _).alloc (Nat.le_refl _) _⟩
 case round =>
  obtain ⟨k,rfl,hk,hKr,hbel⟩:=hrel
  by_cases hlt:k<C
  ·have hc2:wr.cell? ⟨g,k,none⟩=some (.int .i64 (s k)):=by
    rw [hbel.cell hgl,hK.cell k,fnA_get _ hlt]
   have hc3:wr.cell? ⟨w.heap.size,k,none⟩=some (.int .u8 0):=by
    rw [hKr.cell k,fnU_get _ hlt,if_neg (Nat.lt_irrefl k)]
   have hf:=hKr.frozen k
   have b1:=HM.out k
   have b2:=HS.out k
   have hset:fnU C (fun j=>if j<k+1 then meanZ (s j) q else 0)=(fnU C (fun j=>if j<k then meanZ (s j) q else 0)).setIfInBounds k (.int .u8 (meanZ (s k) q)):=by
    rw [fnU_set]
    refine fnU_ext fun j _=>?_
    by_cases e:j=k
    ·subst e;rw [if_pos (by omega),if_pos rfl]
    ·rw [if_neg e]
     by_cases e2:j<k
     ·rw [if_pos (by omega),if_pos e2]
     ·rw [if_neg (by omega),if_neg e2]
   have HSET:=Lib.hid hset
   clear hset
   have ht:(2*s k+q).tdiv (2*q)=meanZ (s k) q:=by
    unfold meanZ;exact Int.tdiv_eq_ediv_of_nonneg (by omega)
   generalize hZ:meanZ (s k) q=Z at *
   generalize hsk:s k=sk at *
   have HK:=Lib.hid hsk
   have HZ:=Lib.hid hZ
   clear hsk hZ
   have g1:wrap64 (2*sk)=2*sk:=IntWalk.wrap64_in _ ⟨by omega,by omega⟩
   have g2:wrap64 (2*sk+q)=2*sk+q:=IntWalk.wrap64_in _ ⟨by omega,by omega⟩
   have g3:wrap64 (2*q)=2*q:=IntWalk.wrap64_in _ ⟨by omega,by omega⟩
   have g4:wrap64 Z=Z:=IntWalk.wrap64_in _ ⟨by omega,by omega⟩
   have g5:IntKind.u8.wrap Z=Z:=by rw [IntKind.wrap_u8];omega
   have g6:(2*q==0)=false:=by simp;omega
   have g7:¬(2*q=0):=by omega
   have g8:¬(q=0):=by omega
   have g9:(q==0)=false:=by simp;omega
   go_wp2_with fail
   exact ⟨⟨k+1,by go_num,by omega,by rw [HSET.out];exact hKr.set k _,hbel.setCell (Nat.le_refl _) _⟩,by simp [intOf];omega⟩
  ·obtain rfl:k=C:=by omega
   go_wp2_with fail
   go_returns
   have hfin:fnU k (fun j=>if j<k then meanZ (s j) q else 0)=fnU k (fun j=>meanZ (s j) q):=fnU_ext fun j hj=>if_pos hj
   rw [hfin] at hKr
   refine ⟨_,rfl,?_,hbel⟩
   have:=own_of_Bk hKr k (by simp [fnU]) (by omega) (Nat.le_refl w.heap.size)
   simpa [fnU,Function.comp_def] using this
end Go.Proofs.YtjbelhpgbcnlmaaGreat
end
