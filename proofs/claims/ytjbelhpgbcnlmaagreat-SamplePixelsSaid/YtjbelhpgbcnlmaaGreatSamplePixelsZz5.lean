/- Several texts in one: Several texts in one: Walks of the reference's numbers of any length (layer 1): digits, trimming, comparing, adding, subtracting. The reference's numbers of any length as whole numbers: making, signs, sums, differences, comparing, reading. The reference's numbers of any length: differences, comparing, reading as 64 bits, powers of two. The reference's numbers of any length: products. Plain mathematics of the reference's quotients: rounding down by sizes and signs, trial digits, one digit after the other. The reference's numbers of any length: quotients of short numbers. The reference's numbers of any length: quotients, rounded down. The reference's numbers of any length: quotients of long numbers, digit by digit. The reference's places: cut to 46 bits. Rows of the reference's numbers. The reference's three by three: minors, adjugates, determinants. -/
import Derived.Test.YtjbelhpgbcnlmaaGreatSamplePixelsZz4
import Derived.Test.YtjbelhpgbcnlmaaGreatSamplePixelsZz1
import Derived.Deep.QuietTactic
import Derived.BigQuiet
import Derived.Deep.RegionWith
import Derived.Deep.RegionHeld3
import Derived.RegionTactic
import Derived.Deep.DeepCutAuto
section
section
set_option linter.unusedVariables false
namespace Go.Proofs.YtjbelhpgbcnlmaaGreat
open Go.RowKit
abbrev RdI (w:World) (B:Nat) (A:Option Addr) (l:List Int):Prop:=Rd w B A (l.map (Value.int .i64))
theorem RdI.get {w:World} {B:Nat} {A:Option Addr} {l:List Int} (h:RdI w B A l) (k:Nat) (hk:k<l.length):∃ b o,A=some ⟨b,o,none⟩∧b<B∧w.cell? ⟨b,o+k,none⟩=some (.int .i64 l[k]):=by
 obtain ⟨b,o,h1,h2,h3⟩:=Rd.get h k (by simpa using hk)
 exact ⟨b,o,h1,h2,by simpa using h3⟩
theorem big_int_info:(Tryz.prog.info? 3).map (fun i=>(i.zero,i.size,i.bytes))=some (some (.int .i64 0),1,8):=by kernel_rfl
set_option maxHeartbeats 400000 in
theorem digit_any (l:List Int) (A:Option Addr) (n c:Nat) (i:Int) (w:World) {B:Nat} (hn:l.length=n) (hn2:n≤1000000) (h:RdI w B A l) :
 Calls Tryz.prog 262 #[.slice A n c,.int .i64 i] w fun e w'=>e=.returned (.int .i64 (if 0≤i then dgt l i.toNat else 0))∧w=w':=by
 by_cases hi:0≤i
 ·obtain ⟨k,rfl⟩:=Int.eq_ofNat_of_zero_le hi
  by_cases hk:k<n
  ·obtain ⟨b,o,rfl,hb,hc⟩:=h.get k (by omega)
   have e:dgt l k=l[k]:=by simp [dgt,List.getElem?_eq_getElem (show k<l.length by omega)]
   have HE:=Lib.hid e;clear e
   go_enter Tryz.func262,Tryz.ntmps262
   go_wp2
   go_ret
   exact ⟨ret_int HE.out.symm,rfl⟩
  ·have e:dgt l k=0:=by simp [dgt,List.getElem?_eq_none (show l.length≤k by omega)]
   have HE:=Lib.hid e;clear e
   go_enter Tryz.func262,Tryz.ntmps262
   go_wp2
   go_ret
   exact ⟨ret_int HE.out.symm,rfl⟩
 ·go_enter Tryz.func262,Tryz.ntmps262
  go_wp2
  go_ret
  exact ⟨rfl,rfl⟩
theorem digit_nat (l:List Int) (A:Option Addr) (n c k:Nat) (w:World) {B:Nat} (hn:l.length=n) (hn2:n≤1000000) (h:RdI w B A l) :
 Calls Tryz.prog 262 #[.slice A n c,.int .i64 k] w fun e w'=>e=.returned (.int .i64 (dgt l k))∧w=w' :=
 (digit_any l A n c k w hn hn2 h).mono fun e w' ⟨h1,h2⟩=>⟨by rw [h1,if_pos (by omega),Int.toNat_natCast],h2⟩
set_option maxHeartbeats 400000 in
theorem trim_any (l:List Int) (A:Option Addr) (n c:Nat) (w:World) {B:Nat} (hn:l.length=n) (hn2:n≤1000000) (hnc:n≤c) (hc:c≤9223372036854775807) (hA:A=none→c=0) (h:RdI w B A l) :
 Calls Tryz.prog 257 #[.slice A n c] w fun e w'=>e=.returned (.slice A (tr l).length c)∧w=w':=by
 go_enter Tryz.func257,Tryz.ntmps257
 go_wp2
 go_loop [3] (fun k=>∃ m:Nat,m≤n∧k=.int .i64 m∧tr l=tr (l.take m)) (fun k=>(intOf k).toNat)
 case atStart=>exact ⟨n,Nat.le_refl _,rfl,by rw [List.take_of_length_le (by omega)]⟩
 case round =>
  obtain ⟨m,hm,rfl,ht⟩:=hrel
  have HT:=Lib.hid ht
  clear ht
  rcases Nat.eq_zero_or_pos m with h0|h0
  ·subst h0
   go_wp2
   go_ret
   exact ⟨by rw [HT.out];rfl,rfl⟩
  ·obtain ⟨b,o,rfl,hb,hcl⟩:=h.get (m-1) (by omega)
   have hs:=tr_step l (m-1) (by omega)
   rw [show m-1+1=m by omega] at hs
   have HS:=Lib.hid hs
   clear hs
   by_cases hz:l[m-1]=0
   ·have HZ:=Lib.hid hz
    rw [hz] at hcl
    clear hz
    go_wp2
    exact ⟨⟨m-1,by omega,val_int (by omega),by rw [HT.out,HS.out,if_pos HZ.out]⟩,by simp [intOf];omega⟩
   ·have hzb:(l[m-1]==0)=false:=by simpa using hz
    have HZ:=Lib.hid hz
    clear hz
    go_wp2
    go_ret
    refine ⟨?_,rfl⟩
    have e:(tr l).length=m:=by rw [HT.out,HS.out,if_neg HZ.out];simp;omega
    simp only [Array.getD_eq_getD_getElem?,List.getElem?_toArray]
    rw [e]
    rfl
def cmpI (x y:Int):Int:=if x<y then -1 else if y<x then 1 else 0
theorem less_step (a b:List Int) (k:Nat) (h:vd (a.drop (k+1))=vd (b.drop (k+1))) (ha:okd a) (hb:okd b) (he:dgt a k=dgt b k):vd (a.drop k)=vd (b.drop k):=by
 rw [vd_drop a,vd_drop b,h,he]
theorem less_lt (a b:List Int) (k:Nat) (h:vd (a.drop (k+1))=vd (b.drop (k+1))) (ha:okd a) (hb:okd b) (he:dgt a k<dgt b k):vd a<vd b:=by
 have hd:vd (a.drop k)+1≤vd (b.drop k):=by rw [vd_drop a,vd_drop b,h];omega
 have sp:∀ l:List Int,vd l=vd (l.take k)+Bp k*vd (l.drop k):=fun l=>by
  by_cases hk:k≤l.length
  ·exact vd_split l k hk
  ·rw [List.take_of_length_le (by omega),List.drop_eq_nil_of_le (by omega)];simp [vd]
 have tl:vd (a.take k)<Bp k:=by
  have:=vd_lt (okd_take ha k)
  have h2:=Bp_mono (show (a.take k).length≤k by simp;omega)
  omega
 have t0:=vd_nonneg (okd_take hb k)
 rw [sp a,sp b]
 have h3:=Bp_pos k
 have:=Int.mul_le_mul_of_nonneg_left hd (by omega:0≤Bp k)
 rw [Int.mul_add] at this
 omega
set_option maxHeartbeats 400000 in
theorem less_any (a b:List Int) (A A':Option Addr) (n m c c':Nat) (w:World) {B B':Nat} (hn:a.length=n) (hm:b.length=m) (hn2:n≤1000000) (hm2:m≤1000000) (ha:okd a) (hb:okd b) (h:RdI w B A a) (h':RdI w B' A' b) :
 Calls Tryz.prog 259 #[.slice A n c,.slice A' m c'] w fun e w'=>e=.returned (.int .i64 (cmpI (vd a) (vd b)))∧w=w':=by
 go_enter Tryz.func259,Tryz.ntmps259
 by_cases hnm:n<m
 all_goals
  go_wp2
  go_loop [5] (fun i=>∃ k:Nat,k≤max n m∧i=.int .i64 ((k:Int)-1)∧vd (a.drop k)=vd (b.drop k)) (fun i=>(intOf i+1).toNat)
  case atStart=>exact ⟨max n m,Nat.le_refl _,val_int (by omega),by rw [List.drop_eq_nil_of_le (by omega),List.drop_eq_nil_of_le (by omega)]⟩
  case round =>
   obtain ⟨k,hk,rfl,hd⟩:=hrel
   have HD:=Lib.hid hd
   clear hd
   rcases Nat.eq_zero_or_pos k with h0|h0
   ·subst h0
    go_wp2
    go_ret
    refine ⟨ret_int ?_,rfl⟩
    have:=HD.out
    simp only [List.drop_zero] at this
    unfold cmpI
    rw [if_neg (by omega),if_neg (by omega)]
   ·obtain ⟨j,rfl⟩:∃ j,k=j+1:=⟨k-1,by omega⟩
    have e1:((j+1:Nat):Int)-1=j:=by omega
    have hE1:=Lib.hid e1
    simp only [e1]
    clear e1
    rcases Int.lt_trichotomy (dgt a j) (dgt b j) with hc|hc|hc
    ·have hv:=less_lt a b j HD.out ha hb hc
     go_wp2_with (first
      | (go_at_call 262;(with_reducible refine (digit_nat a _ _ _ _ _ hn hn2 h).mono ?_);rintro e w' ⟨rfl,rfl⟩)
      | (go_at_call 262;(with_reducible refine (digit_nat b _ _ _ _ _ hm hm2 h').mono ?_);rintro e w' ⟨rfl,rfl⟩))
     go_ret
     exact ⟨ret_int (by unfold cmpI;rw [if_pos hv]),rfl⟩
    ·have hs:=less_step a b j HD.out ha hb hc
     have HS:=Lib.hid hs
     have hlt1:¬dgt a j<dgt b j:=by omega
     have hlt2:¬dgt b j<dgt a j:=by omega
     clear hs hc
     go_wp2_with (first
      | (go_at_call 262;(with_reducible refine (digit_nat a _ _ _ _ _ hn hn2 h).mono ?_);rintro e w' ⟨rfl,rfl⟩)
      | (go_at_call 262;(with_reducible refine (digit_nat b _ _ _ _ _ hm hm2 h').mono ?_);rintro e w' ⟨rfl,rfl⟩))
     exact ⟨⟨j,by omega,rfl,HS.out⟩,by simp [intOf]⟩
    ·have hv:=less_lt b a j HD.out.symm hb ha hc
     have hlt1:¬dgt a j<dgt b j:=by omega
     go_wp2_with (first
      | (go_at_call 262;(with_reducible refine (digit_nat a _ _ _ _ _ hn hn2 h).mono ?_);rintro e w' ⟨rfl,rfl⟩)
      | (go_at_call 262;(with_reducible refine (digit_nat b _ _ _ _ _ hm hm2 h').mono ?_);rintro e w' ⟨rfl,rfl⟩))
     go_ret
     exact ⟨ret_int (by unfold cmpI;rw [if_neg (by omega),if_pos hv]),rfl⟩
def smL (a b:List Int):Nat→List Int
 | 0=>[]
 | k+1=>smL a b k++[(dgt a k+dgt b k+smC a b k)%32768]
where smC (a b:List Int):Nat→Int
 | 0=>0
 | k+1=>(dgt a k+dgt b k+smC a b k)/32768
theorem smL_len (a b:List Int) (k:Nat):(smL a b k).length=k:=by
 induction k with
 | zero=>rfl
 | succ k ih=>simp [smL,ih]
theorem smC_bd (a b:List Int) (ha:okd a) (hb:okd b) (k:Nat):0≤smL.smC a b k∧smL.smC a b k≤1:=by
 induction k with
 | zero=>simp [smL.smC]
 | succ k ih =>
   have:=dgt_ok ha k
   have:=dgt_ok hb k
   rw [smL.smC]
   omega
theorem smL_ok (a b:List Int) (k:Nat):okd (smL a b k):=by
 induction k with
 | zero=>exact okd_nil
 | succ k ih =>
   rw [smL,okd_append]
   refine ⟨ih,fun d hd=>?_⟩
   simp at hd
   subst hd
   omega
theorem smL_vd (a b:List Int) (k:Nat):vd (smL a b k)+Bp k*smL.smC a b k=vd (a.take k)+vd (b.take k):=by
 induction k with
 | zero=>simp [smL,smL.smC,vd]
 | succ k ih =>
   rw [smL,vd_snoc,smL_len,vd_take_succ,vd_take_succ,smL.smC,Bp,Int.mul_assoc]
   have e:Bp k*((dgt a k+dgt b k+smL.smC a b k)%32768)+32768*(Bp k*((dgt a k+dgt b k+smL.smC a b k)/32768))=Bp k*dgt a k+Bp k*dgt b k+Bp k*smL.smC a b k:=by
    rw [show 32768*(Bp k*((dgt a k+dgt b k+smL.smC a b k)/32768))=Bp k*(32768*((dgt a k+dgt b k+smL.smC a b k)/32768)) by rw [← Int.mul_assoc,← Int.mul_assoc,Int.mul_comm 32768 (Bp k)]]
    rw [← Int.mul_add,Int.emod_add_mul_ediv,Int.mul_add,Int.mul_add]
   omega
def BigD (lo:Nat) (w':World) (v:Value) (z:Int):Prop :=
 ∃ A c l,v=.slice A l.length c∧l.length≤c∧c≤maxLen∧(A=none→c=0)∧RdL w' lo A (l.map (Value.int .i64))∧Norm l∧vd l=z
set_option maxHeartbeats 1000000 in
theorem sum_any (a b:List Int) (A A':Option Addr) (n m c c':Nat) (w:World) (hn:a.length=n) (hm:b.length=m) (hn2:n≤100000) (hm2:m≤100000) (ha:okd a) (hb:okd b) (h:RdI w w.heap.size A a) (h':RdI w w.heap.size A' b) :
 Calls Tryz.prog 258 #[.slice A n c,.slice A' m c'] w fun e w'=>∃ v,e=.returned v∧BigD w.heap.size w' v (vd a+vd b)∧Below w.heap.size w w':=by
 go_enter Tryz.func258,Tryz.ntmps258
 go_wp2
 go_loopw [5,6,7] (fun v cr i wr=>∃ k:Nat,k≤max n m∧i=.int .i64 k∧cr=.int .i64 (smL.smC a b k)∧wr.ownsRow w.heap.size 3 1 v k ((smL a b k).map (Value.int .i64))∧Below w.heap.size w wr) (fun _ _ i _=>max n m-(intOf i).toNat)
 case atStart=>exact ⟨0,by omega,rfl,rfl,World.ownsRow_nil _ _ _ _,Below.refl _ _⟩
 case round =>
  obtain ⟨k,hk,rfl,rfl,hown,hbel⟩:=hrel
  have hC:=smC_bd a b ha hb k
  have hda:=dgt_ok ha k
  have hdb:=dgt_ok hb k
  by_cases hlt:k<max n m
  ·have hrA:=h.below hbel
   have hrB:=h'.below hbel
   by_cases hnm:n<m
   all_goals
    go_wp2_with (first
     | (go_at_call 262;(with_reducible refine (digit_nat a _ _ _ _ _ hn (by omega) hrA).mono ?_);rintro e w' ⟨rfl,rfl⟩)
     | (go_at_call 262;(with_reducible refine (digit_nat b _ _ _ _ _ hm (by omega) hrB).mono ?_);rintro e w' ⟨rfl,rfl⟩)
     | (at_builtin;refine app1 rfl _ _ _ rfl Tryz.underlying120 big_int_info rfl (by omega) rfl rfl hown hbel (Nat.le_refl _) hbel.size rfl ints1 (by omega) (by omega) ?_;intro v' w' hown' hbel' _ _ _;clear hown hbel hrA hrB))
    exact ⟨⟨k+1,by omega,by go_num,rfl,by simpa [smL] using hown',hbel'⟩,by simp [intOf];omega⟩
  ·obtain rfl:k=max n m:=by omega
   by_cases hnm:n<m
   all_goals
    go_wp2_with (at_builtin;refine app1 rfl _ _ _ rfl Tryz.underlying120 big_int_info rfl (by omega) rfl rfl hown hbel (Nat.le_refl _) hbel.size rfl ints1 (by omega) (by omega) ?_;intro v' w' hown' hbel' _ _ _;clear hown hbel)
    obtain ⟨A3,c3,hv3,h31,h32,hA3,h33,h34⟩:=own_form2 hown'
    have h35:=RdL.of_own (hv3▸hown')
    subst hv3
    have hL:((smL a b (max n m)).map (Value.int .i64))++(#[Value.int .i64 (smL.smC a b (max n m))]:Array Value).toList=(smL a b (max n m)++[smL.smC a b (max n m)]).map (Value.int .i64):=by simp
    simp only at hL
    rw [hL] at h33 h35
    refine (trim_any (smL a b (max n m)++[smL.smC a b (max n m)]) A3 (max n m+1) c3 w' (by simp [smL_len]) (by omega) h31 (by simpa [maxLen] using h32) hA3 h33).mono ?_
    rintro e w3 ⟨rfl,rfl⟩
    go_wp2
    go_ret
    have hok:okd (smL a b (max n m)++[smL.smC a b (max n m)]):=okd_append.2 ⟨smL_ok a b _,fun d hd=>by simp at hd;subst hd;omega⟩
    refine ⟨_,rfl,⟨A3,c3,tr (smL a b (max n m)++[smL.smC a b (max n m)]),rfl,?_,h32,hA3,?_,tr_norm hok,?_⟩,hbel'⟩
    ·have:=tr_le (smL a b (max n m)++[smL.smC a b (max n m)]);simp [smL_len] at this;omega
    ·rw [tr_take,List.map_take];exact h35.take _
    ·rw [tr_vd,vd_snoc,smL_len,smL_vd,List.take_of_length_le (by omega),List.take_of_length_le (by omega)]
def rsL (a b:List Int):Nat→List Int
 | 0=>[]
 | k+1=>rsL a b k++[(dgt a k-dgt b k-rsB a b k)%32768]
where rsB (a b:List Int):Nat→Int
 | 0=>0
 | k+1=>if dgt a k-dgt b k-rsB a b k<0 then 1 else 0
theorem rsL_len (a b:List Int) (k:Nat):(rsL a b k).length=k:=by
 induction k with
 | zero=>rfl
 | succ k ih=>simp [rsL,ih]
theorem rsB_bd (a b:List Int) (k:Nat):0≤rsL.rsB a b k∧rsL.rsB a b k≤1:=by
 cases k with
 | zero=>simp [rsL.rsB]
 | succ k=>rw [rsL.rsB];split <;> omega
theorem rsL_ok (a b:List Int) (k:Nat):okd (rsL a b k):=by
 induction k with
 | zero=>exact okd_nil
 | succ k ih =>
   rw [rsL,okd_append]
   refine ⟨ih,fun d hd=>?_⟩
   simp at hd
   subst hd
   omega
theorem rsL_vd (a b:List Int) (ha:okd a) (hb:okd b) (k:Nat):vd (rsL a b k)-Bp k*rsL.rsB a b k=vd (a.take k)-vd (b.take k):=by
 induction k with
 | zero=>simp [rsL,rsL.rsB,vd]
 | succ k ih =>
   have h1:=dgt_ok ha k
   have h2:=dgt_ok hb k
   have h3:=rsB_bd a b k
   rw [rsL,vd_snoc,rsL_len,vd_take_succ,vd_take_succ,rsL.rsB,Bp,Int.mul_assoc]
   generalize dgt a k=x at *
   generalize dgt b k=y at *
   generalize rsL.rsB a b k=c at *
   have e:Bp k*((x-y-c)%32768)-32768*(Bp k*(if x-y-c<0 then 1 else 0))=Bp k*x-Bp k*y-Bp k*c:=by
    rw [show 32768*(Bp k*(if x-y-c<0 then (1:Int) else 0))=Bp k*(32768*(if x-y-c<0 then 1 else 0)) by rw [← Int.mul_assoc,← Int.mul_assoc,Int.mul_comm 32768 (Bp k)]]
    rw [← Int.mul_sub,← Int.mul_sub,← Int.mul_sub]
    congr 1
    split <;> omega
   omega
theorem rsL_done (a b:List Int) (ha:okd a) (hb:okd b) (hl:b.length≤a.length) (hv:vd b≤vd a):vd (rsL a b a.length)=vd a-vd b:=by
 have h1:=rsL_vd a b ha hb a.length
 rw [List.take_of_length_le (Nat.le_refl _),List.take_of_length_le hl] at h1
 have h2:=rsB_bd a b a.length
 have h3:=vd_lt (rsL_ok a b a.length)
 rw [rsL_len] at h3
 rcases (show rsL.rsB a b a.length=0∨rsL.rsB a b a.length=1 by omega) with h4|h4 <;> rw [h4] at h1 <;> omega
set_option maxHeartbeats 1000000 in
theorem rest_any (a b:List Int) (A A':Option Addr) (n m c c':Nat) (w:World) (hn:a.length=n) (hm:b.length=m) (hn2:n≤100000) (hmn:m≤n) (ha:okd a) (hb:okd b) (hv:vd b≤vd a) (h:RdI w w.heap.size A a) (h':RdI w w.heap.size A' b) :
 Calls Tryz.prog 260 #[.slice A n c,.slice A' m c'] w fun e w'=>∃ v,e=.returned v∧BigD w.heap.size w' v (vd a-vd b)∧Below w.heap.size w w':=by
 go_enter Tryz.func260,Tryz.ntmps260
 go_wp2
 go_loopw [5,6,7] (fun v cr i wr=>∃ k:Nat,k≤n∧i=.int .i64 k∧cr=.int .i64 (rsL.rsB a b k)∧wr.ownsRow w.heap.size 3 1 v k ((rsL a b k).map (Value.int .i64))∧Below w.heap.size w wr) (fun _ _ i _=>n-(intOf i).toNat)
 case atStart=>exact ⟨0,by omega,rfl,rfl,World.ownsRow_nil _ _ _ _,Below.refl _ _⟩
 case round =>
  obtain ⟨k,hk,rfl,rfl,hown,hbel⟩:=hrel
  have hC:=rsB_bd a b k
  have hda:=dgt_ok ha k
  have hdb:=dgt_ok hb k
  by_cases hlt:k<n
  ·have hrA:=h.below hbel
   have hrB:=h'.below hbel
   have HB1:Hid (rsL.rsB a b (k+1)=if dgt a k-dgt b k-rsL.rsB a b k<0 then 1 else 0):=rfl
   have HL1:Hid (rsL a b (k+1)=rsL a b k++[(dgt a k-dgt b k-rsL.rsB a b k)%32768]):=rfl
   by_cases hneg:dgt a k-dgt b k-rsL.rsB a b k<0
   all_goals
    go_wp2_with (first
     | (go_at_call 262;(with_reducible refine (digit_nat a _ _ _ _ _ hn (by omega) hrA).mono ?_);rintro e w' ⟨rfl,rfl⟩)
     | (go_at_call 262;(with_reducible refine (digit_nat b _ _ _ _ _ hm (by omega) hrB).mono ?_);rintro e w' ⟨rfl,rfl⟩)
     | (at_builtin;refine app1 rfl _ _ _ rfl Tryz.underlying120 big_int_info rfl (by omega) rfl rfl hown hbel (Nat.le_refl _) hbel.size rfl ints1 (by omega) (by omega) ?_;intro v' w' hown' hbel' _ _ _;clear hown hbel hrA hrB))
   ·exact ⟨⟨k+1,by omega,by go_num,by rw [HB1.out,if_pos hneg],by rw [HL1.out,show (dgt a k-dgt b k-rsL.rsB a b k)%32768=dgt a k-dgt b k-rsL.rsB a b k+32768 by omega];simpa using hown',hbel'⟩,by simp [intOf];omega⟩
   ·exact ⟨⟨k+1,by omega,by go_num,by rw [HB1.out,if_neg (by omega)],by rw [HL1.out,show (dgt a k-dgt b k-rsL.rsB a b k)%32768=dgt a k-dgt b k-rsL.rsB a b k by omega];simpa using hown',hbel'⟩,by simp [intOf];omega⟩
  ·obtain rfl:k=n:=by omega
   obtain ⟨A3,c3,rfl,h31,h32,hA3,h33,h34⟩:=own_form2 hown
   have h35:=RdL.of_own hown
   go_wp2_with fail
   refine (trim_any (rsL a b k) A3 k c3 wr (rsL_len a b k) (by omega) h31 (by simpa [maxLen] using h32) hA3 h33).mono ?_
   rintro e w3 ⟨rfl,rfl⟩
   go_wp2
   go_ret
   refine ⟨_,rfl,⟨A3,c3,tr (rsL a b k),rfl,?_,h32,hA3,?_,tr_norm (rsL_ok a b k),?_⟩,hbel⟩
   ·have:=tr_le (rsL a b k);rw [rsL_len] at this;omega
   ·rw [tr_take,List.map_take];exact h35.take _
   ·rw [tr_vd,← hn];exact rsL_done a b ha hb (by omega) hv
set_option maxHeartbeats 400000 in
theorem made_big (g:Bool) (A:Option Addr) (n c:Nat) (w:World) :
 Calls Tryz.prog 256 #[.bool g,.slice A n c] w fun e w'=>e=.returned (.agg #[.bool (g&&decide (0<n)),.slice A n c])∧Below w.heap.size w w':=by
 cases g
 ·go_enter Tryz.func256,Tryz.ntmps256
  go_wp2
  go_returns
  exact ⟨rfl,by go_grown⟩
 ·by_cases hn:0<n
  all_goals
   go_enter Tryz.func256,Tryz.ntmps256
   go_wp2
   go_returns
   exact ⟨by simp [hn],by go_grown⟩
end Go.Proofs.YtjbelhpgbcnlmaaGreat
end
section
set_option linter.unusedVariables false
namespace Go.Proofs.YtjbelhpgbcnlmaaGreat
open Go.RowKit
def BigN (lo:Nat) (w:World) (v:Value) (z:Int):Prop :=
 ∃ A c l,v=.agg #[.bool (decide (z<0)),.slice A l.length c]∧l.length≤c∧c≤maxLen∧(A=none→c=0)∧RdL w lo A (l.map (Value.int .i64))∧Norm l∧vd l=(z.natAbs:Int)
theorem BigN.less {lo lo':Nat} {w:World} {v:Value} {z:Int} (h:BigN lo w v z) (hl:lo'≤lo):BigN lo' w v z:=by
 obtain ⟨A,c,l,h1,h2,h3,h4,h5,h6,h7⟩:=h
 exact ⟨A,c,l,h1,h2,h3,h4,h5.less hl,h6,h7⟩
theorem BigN.keep {lo:Nat} {w w':World} {B:Nat} {v:Value} {z:Int} (h:BigN lo w v z) (hb:Below B w w') (hB:w.heap.size≤B):BigN lo w' v z:=by
 obtain ⟨A,c,l,h1,h2,h3,h4,h5,h6,h7⟩:=h
 exact ⟨A,c,l,h1,h2,h3,h4,h5.below hb hB,h6,h7⟩
theorem BigN.nx {lo:Nat} {w w':World} {v:Value} {z:Int} (h:BigN lo w v z) (hb:Below w.heap.size w w'):BigN lo w' v z:=h.keep hb (Nat.le_refl _)
theorem BigN.alloc {lo:Nat} {w:World} {v:Value} {z:Int} (h:BigN lo w v z) (o:Obj):BigN lo (w.alloc o) v z :=
 h.keep ((Below.refl w.heap.size w).alloc (Nat.le_refl _) o) (Nat.le_refl _)
theorem BigN.drew {lo:Nat} {w:World} {v:Value} {z:Int} (h:BigN lo w v z):BigN lo w.drew v z:=h.keep (Below.refl w.heap.size w).drew (Nat.le_refl _)
theorem BigN.grown {lo:Nat} {w w':World} {v:Value} {z:Int} {g:Nat} (h:BigN lo w v z) (hg:w.grownBy w' (some g)) (hr:g<lo∨w.heap.size≤g):BigN lo w' v z:=by
 obtain ⟨A,c,l,h1,h2,h3,h4,h5,h6,h7⟩:=h
 exact ⟨A,c,l,h1,h2,h3,h4,h5.grown hg (fun g' e=>by injection e with e;omega),h6,h7⟩
def Sm (z:Int):Prop:=(z.natAbs:Int)<Bp 40
theorem sm_len {z:Int} {l:List Int} (h:Sm z) (hn:Norm l) (hv:vd l=(z.natAbs:Int)):l.length≤40:=norm_len hn (by rw [hv];exact h)
theorem sm_of {z:Int} (h:-1606938044258990275541962092341162602522202993782792835301376≤z) (h':z≤1606938044258990275541962092341162602522202993782792835301376):Sm z:=by
 unfold Sm;rw [Bp40];omega
set_option maxHeartbeats 1000000 in
theorem uns_any (x:Int) (w:World) (h0:0≤x) (h1:x≤18446744073709551615) :
 Calls Tryz.prog 206 #[.int .u64 x] w fun e w'=>∃ v,e=.returned v∧BigN w.heap.size w' v x∧Below w.heap.size w w':=by
 have hB5:=Bp5
 go_enter Tryz.func206,Tryz.ntmps206
 go_wp2
 go_loopw [0,3] (fun y v wr=>∃ (yy:Int) (l:List Int),y=.int .u64 yy∧0≤yy∧yy≤18446744073709551615∧okd l∧vd l+Bp l.length*yy=x∧(yy=0→Norm l)∧wr.ownsRow (w.heap.size+1) 3 1 v l.length (l.map (Value.int .i64))∧Below (w.heap.size+1) (w.alloc (.cells #[.bool false,.slice none 0 0] 166)) wr) (fun y _ _=>(intOf y).toNat)
 case atStart=>exact ⟨x,[],rfl,h0,h1,okd_nil,by simp [vd,Bp],fun _=>norm_nil,World.ownsRow_nil _ _ _ _,Below.refl _ _⟩
 case round =>
  obtain ⟨yy,l,rfl,hy0,hy1,hok,hv,hnm,hown,hbel⟩:=hrel
  have hsz:=hbel.size
  simp only [World.size_alloc] at hsz
  by_cases hlt:0<yy
  ·have hl5:l.length<5:=by
    have hp:=Bp_pos l.length
    have:=Int.mul_le_mul_of_nonneg_left (show 1≤yy by omega) (by omega:0≤Bp l.length)
    have hv0:=vd_nonneg hok
    rcases Nat.lt_or_ge l.length 5 with h|h
    ·exact h
    ·have:=Bp_mono h;omega
   have HV:Hid (vd (l++[yy%32768])+Bp (l++[yy%32768]).length*(yy/32768)=x):=by
    show _=_
    rw [vd_snoc,List.length_append,List.length_singleton,Bp1s,Int.mul_assoc,← hv]
    have:Bp l.length*(yy%32768)+32768*(Bp l.length*(yy/32768))=Bp l.length*yy:=by
     rw [show 32768*(Bp l.length*(yy/32768))=Bp l.length*(32768*(yy/32768)) by rw [← Int.mul_assoc,← Int.mul_assoc,Int.mul_comm 32768]]
     rw [← Int.mul_add,Int.emod_add_mul_ediv]
    omega
   have HN:Hid (yy/32768=0→Norm (l++[yy%32768])):=by
    intro h
    refine ⟨okd_append.2 ⟨hok,fun d hd=>by simp at hd;subst hd;omega⟩,fun d hd=>?_⟩
    simp at hd;subst hd;omega
   have HO:Hid (okd (l++[yy%32768])):=okd_append.2 ⟨hok,fun d hd=>by simp at hd;subst hd;omega⟩
   clear hv hnm hok
   go_wp2_with (at_builtin;refine app1 rfl _ _ _ rfl Tryz.underlying120 big_int_info rfl (by omega) rfl rfl hown hbel (Nat.le_refl _) hsz rfl ints1 (by omega) (by omega) ?_;intro v' w' hown' hbel' _ _ _;clear hown hbel)
   exact ⟨⟨yy/32768,l++[yy%32768],rfl,by omega,by omega,HO.out,HV.out,HN.out,by simpa using hown',hbel'⟩,by simp [intOf];omega⟩
  ·have hy:yy=0:=by omega
   have hN:=hnm hy
   subst hy
   have hvd:vd l=x:=by simpa using hv
   clear hnm hv
   have HV:=Lib.hid hvd
   clear hvd
   obtain ⟨A3,c3,rfl,h31,h32,hA3,h33,h34⟩:=own_form2 hown
   have hK:Bk wr w.heap.size 166 #[.bool false,.slice none 0 0]:=(Bk.new w _ _).below hbel (by omega)
   go_wp2_with (refine stBig rfl _ _ rfl hK rfl rfl rfl ?_;intro w6 hK6 hg6 hs6)
   refine bodyPost_ret (res_big rfl hK6 rfl) rfl ?_
   have h6:=(RdL.of_own hown).grown hg6 (fun g e=>.inl (by injection e;omega))
   have hbz:Below w.heap.size w wr:=((Below.refl _ w).alloc (Nat.le_refl _) _).trans (hbel.mono (by omega))
   have hneg:decide (x<0)=false:=by simp;omega
   exact ⟨_,rfl,⟨A3,c3,l,by rw [hneg],h31,h32,hA3,h6.less (by omega),hN,by rw [HV.out];omega⟩,below_grown hbz hg6 (Nat.le_refl _) (by omega)⟩
set_option maxHeartbeats 1000000 in
theorem of_any (x:Int) (w:World) (h0:-9223372036854775808≤x) (h1:x≤9223372036854775807) :
 Calls Tryz.prog 132 #[.int .i64 x] w fun e w'=>∃ v,e=.returned v∧BigN w.heap.size w' v x∧Below w.heap.size w w':=by
 by_cases hx:x<0
 ·go_enter Tryz.func132,Tryz.ntmps132
  go_wp2_with fail
  have e:IntKind.u64.wrap (-(x+1))=-(x+1):=by rw [IntKind.wrap_u64];omega
  rw [show -(x+1)+1=-x by omega]
  refine (uns_any (-x) _ (by omega) (by omega)).mono ?_
  rintro e w1 ⟨v,rfl,⟨A,c,l,rfl,h2,h3,h4,h5,h6,h7⟩,hb⟩
  have hK:=(Bk.new w 166 #[.bool false,.slice none 0 0]).nx hb
  have hz:=hb.size
  simp only [World.size_alloc] at hz
  have hneg:decide (-x<0)=false:=by simp;omega
  rw [hneg]
  clear hneg
  go_wp2_with (refine stBig rfl _ _ rfl (hK.alloc _) rfl rfl rfl ?_;intro w6 hK6 hg6 hs6)
  refine bodyPost_ret (res_big rfl hK6 rfl) rfl ?_
  have hbz:Below w.heap.size w w1:=((Below.refl _ w).alloc (Nat.le_refl _) _).trans (hb.mono (by simp))
  have hneg:decide (x<0)=true:=by simp;omega
  refine ⟨_,rfl,⟨A,c,l,by rw [hneg],h2,h3,h4,?_,h6,by omega⟩,below_grown (hbz.alloc (by omega) _) hg6 (Nat.le_refl _) (by simp;omega)⟩
  exact ((h5.below ((Below.refl w1.heap.size w1).alloc (Nat.le_refl _) _) (Nat.le_refl _)).grown hg6 (fun g e=>.inl (by injection e with e;simp;omega))).less (by simp)
 ·go_enter Tryz.func132,Tryz.ntmps132
  have hneg:decide (x<0)=false:=by simp;omega
  go_wp2_with fail
  refine (uns_any x _ (by omega) (by omega)).mono ?_
  rintro e w1 ⟨v,rfl,⟨A,c,l,rfl,h2,h3,h4,h5,h6,h7⟩,hb⟩
  have hK:=(Bk.new w 166 #[.bool false,.slice none 0 0]).nx hb
  have hz:=hb.size
  simp only [World.size_alloc] at hz
  go_wp2_with (refine stBig rfl _ _ rfl hK rfl rfl rfl ?_;intro w6 hK6 hg6 hs6)
  refine bodyPost_ret (res_big rfl hK6 rfl) rfl ?_
  have hbz:Below w.heap.size w w1:=((Below.refl _ w).alloc (Nat.le_refl _) _).trans (hb.mono (by simp))
  have hng0:decide (x<0)=false:=by simp;omega
  refine ⟨_,rfl,⟨A,c,l,by rw [hng0],h2,h3,h4,?_,h6,h7⟩,below_grown hbz hg6 (Nat.le_refl _) (by omega)⟩
  exact (h5.grown hg6 (fun g e=>.inl (by injection e with e;simp;omega))).less (by simp)
theorem abs_of (l:List Int) (z:Int) (hv:vd l=(z.natAbs:Int)):z=if z<0 then-vd l else vd l:=by split <;> omega
set_option maxHeartbeats 1000000 in
theorem neg_any (va:Value) (x:Int) (w:World) {lo:Nat} (ha:BigN lo w va x) (hs:Sm x) :
 Calls Tryz.prog 183 #[va] w fun e w'=>∃ v,e=.returned v∧BigN lo w' v (-x)∧Below w.heap.size w w':=by
 obtain ⟨A,c,l,rfl,h2,h3,h4,h5,h6,h7⟩:=ha
 generalize hsx:decide (x<0)=sx
 have HSX:=Lib.hid hsx
 clear hsx
 go_enter Tryz.func183,Tryz.ntmps183
 go_wp2_with fail
 refine (made_big (!sx) A l.length c _).mono ?_
 rintro e w1 ⟨rfl,hb⟩
 have hz:=hb.size
 simp only [World.size_alloc] at hz
 have hK:=(Bk.new (w.alloc (.cells #[.bool sx,.slice A l.length c] 166)) 166 #[.bool false,.slice none 0 0]).nx hb
 simp only [World.size_alloc] at hK
 go_wp2_with (refine stBig rfl _ _ rfl hK rfl rfl rfl ?_;intro w6 hK6 hg6 hs6)
 refine bodyPost_ret (res_big rfl hK6 rfl) rfl ?_
 have hbz:Below w.heap.size w w1:=(((Below.refl _ w).alloc (Nat.le_refl _) _).alloc (by simp) _).trans (hb.mono (by simp;omega))
 have hneg:(!sx&&decide (0<l.length))=decide (-x<0):=by
  rw [← HSX.out]
  have:=norm_zero h6
  rw [h7] at this
  by_cases hl:l=[]
  ·have:=this.1 hl;subst hl;simp;omega
  ·have hn:¬(x.natAbs:Int)=0:=fun e=>hl (this.2 e)
   have hp:=List.length_pos_iff.2 hl
   rw [Bool.eq_iff_iff];simp [hp];omega
 have hb6:=below_grown hbz hg6 (by simp) (by omega)
 exact ⟨_,rfl,⟨A,c,l,by rw [← hneg],h2,h3,h4,h5.below hb6 (Nat.le_refl _),h6,by rw [h7];omega⟩,hb6⟩
set_option maxRecDepth 100000 in
set_option maxHeartbeats 2000000 in
theorem add_any (va vb:Value) (x y:Int) (w:World) {lo lo':Nat} (ha:BigN lo w va x) (hb:BigN lo' w vb y) (hsa:Sm x) (hsb:Sm y) :
 Calls Tryz.prog 184 #[va,vb] w fun e w'=>∃ v,e=.returned v∧BigN w.heap.size w' v (x+y)∧Below w.heap.size w w':=by
 obtain ⟨A,c,l,rfl,h2,h3,h4,h5,h6,h7⟩:=ha
 obtain ⟨A',c',l',rfl,h2',h3',h4',h5',h6',h7'⟩:=hb
 have hl:=sm_len hsa h6 h7
 have ok1:=h6.1
 have ok2:=h6'.1
 have H7:=Lib.hid h7
 have H7':=Lib.hid h7'
 clear h7 h7'
 have hs1:=h5.rd
 have hs2:=h5'.rd
 have hl':=sm_len hsb h6' H7'.out
 by_cases hsg:decide (x<0)=decide (y<0)
 ·have hsb2:(decide (x<0)==decide (y<0))=true:=by simpa using hsg
  have HSG:=Lib.hid hsg
  clear hsg
  generalize hgx:decide (x<0)=sx at *
  generalize hgy:decide (y<0)=sy at *
  have HGX:=Lib.hid hgx
  have HGY:=Lib.hid hgy
  clear hgx hgy
  go_enter Tryz.func184,Tryz.ntmps184
  go_wp2_with (go_at_call 259;refine (less_any l l' A A' _ _ _ _ _ rfl rfl (by omega) (by omega) ok1 ok2 (B:=w.heap.size) (B':=w.heap.size) (by exact (((hs1.alloc (Nat.le_refl _) _).alloc (by simp) _).alloc (by simp;omega) _)) (by exact (((hs2.alloc (Nat.le_refl _) _).alloc (by simp) _).alloc (by simp;omega) _))).mono ?_;rintro e w1 ⟨rfl,rfl⟩)
  generalize hW:((w.alloc (Obj.cells #[Value.bool sx,Value.slice A l.length c] 166)).alloc (Obj.cells #[Value.bool sy,Value.slice A' l'.length c'] 166)).alloc (Obj.cells #[Value.bool false,Value.slice none 0 0] 166)=W
  have hb0:Below w.heap.size w W:=by subst hW;go_grown
  have hr1:RdI W.drew W.drew.heap.size A l:=(h5.below hb0 (Nat.le_refl _)).rd
  have hr2:RdI W.drew W.drew.heap.size A' l':=(h5'.below hb0 (Nat.le_refl _)).rd
  have hK0:Bk W w.heap.size 166 #[.bool sx,.slice A l.length c]:=by subst hW;exact ((Bk.new _ _ _).alloc _).alloc _
  have hK1:Bk W (w.heap.size+1) 166 #[.bool sy,.slice A' l'.length c']:=by subst hW;simpa using (Bk.new (w.alloc _) 166 #[Value.bool sy,Value.slice A' l'.length c']).alloc _
  have hK2:Bk W (w.heap.size+1+1) 166 #[.bool false,.slice none 0 0]:=by subst hW;simpa using (Bk.new ((w.alloc _).alloc _) 166 #[.bool false,.slice none 0 0])
  obtain ⟨c00,c01⟩:=hK0.cell2
  obtain ⟨c10,c11⟩:=hK1.cell2
  have l0:=hK0.lt
  have l1:=hK1.lt
  have l2:=hK2.lt
  have HW:=Lib.hid hW
  clear hW
  have hK0d:=hK0.drew
  have hK1d:=hK1.drew
  have hK2d:=hK2.drew
  go_region_held3 (fun w'=>w'.cell? ⟨w.heap.size,0,none⟩=some (.bool sx)∧w'.cell? ⟨w.heap.size,1,none⟩=some (.slice A l.length c)∧w'.cell? ⟨w.heap.size+1,1,none⟩=some (.slice A' l'.length c'))
   (first | exact ⟨c00,c01,c11⟩|exact ⟨c00',c01',c11'⟩|exact ⟨c00'',c01'',c11''⟩|(refine ⟨?_,?_,?_⟩ <;> go_simp))
   (first
   | (go_at_call 258;(with_reducible refine (sum_any l l' A A' _ _ _ _ _ rfl rfl (by omega) (by omega) ok1 ok2 hr1 hr2).mono ?_);rintro e w1 ⟨v1,rfl,⟨A1,c1,m1,rfl,g2,g3,g4,g5,g6,g7⟩,hb1⟩;obtain ⟨c00',c01'⟩:=(hK0d.nx hb1).cell2;obtain ⟨c10',c11'⟩:=(hK1d.nx hb1).cell2;have hK2':=hK2d.nx hb1)
   | (go_at_call 256;refine (made_big _ A1 _ c1 _).mono ?_;rintro e w2 ⟨rfl,hb2⟩;have hK22:=hK2'.nx hb2;obtain ⟨c20,c21⟩:=hK22.cell2;have f20:=hK22.frozen 0;have f21:=hK22.frozen 1;obtain ⟨c00'',c01''⟩:=((hK0d.nx hb1).nx hb2).cell2;obtain ⟨c10'',c11''⟩:=((hK1d.nx hb1).nx hb2).cell2))
  go_wp2
  refine bodyPost_ret (res_big rfl (hK22.set2 _ _) rfl) rfl ?_
  have hz1:=hb1.size
  have hz2:=hb2.size
  simp only [World.size_drew] at hz1
  have hsgn:(sx&&decide (0<m1.length))=decide (x+y<0):=by
   have hn:=norm_zero g6
   rw [g7,H7.out,H7'.out] at hn
   have e1:=HGX.out
   have e2:=HGY.out
   rw [HSG.out] at e1
   rw [← e2] at e1
   by_cases hx:x<0
   ·have hy:y<0:=by simpa [hx] using e1
    have:m1≠[]:=fun e=>by have:=hn.1 e;omega
    rw [HSG.out,← e2]
    simp [hy,List.length_pos_iff.2 this];omega
   ·have hy:¬y<0:=by simpa [hx] using e1
    rw [HSG.out,← e2]
    simp [hy];omega
  have hbW:Below w.heap.size w w2:=((hb0.drew).trans (hb1.mono (by simp;omega))).trans (hb2.mono (by omega))
  refine ⟨_,rfl,⟨A1,c1,m1,by rw [← hsgn],g2,g3,g4,?_,g6,?_⟩,below_of_gb hbW (gb2 w2 _ _ _) (by omega) (by omega)⟩
  ·exact ((g5.below hb2 (Nat.le_refl _)).grown (gb2 w2 _ _ _) (fun g e=>.inl (by injection e with e;simp;omega))).less (by simp;omega)
  ·rw [g7,H7.out,H7'.out]
   have e1:=HGX.out
   have e2:=HGY.out
   rw [HSG.out,← e2] at e1
   by_cases hx:x<0
   ·have hy:y<0:=by simpa [hx] using e1
    omega
   ·have hy:¬y<0:=by simpa [hx] using e1
    omega
 ·have hsb2:(decide (x<0)==decide (y<0))=false:=by simpa using hsg
  have hxy:(x<0∧0≤y)∨(0≤x∧y<0):=by
   by_cases h1:x<0 <;> by_cases h2:y<0 <;> simp_all <;> omega
  clear hsg
  rcases (show vd l'≤vd l∨vd l<vd l' by omega) with hge|hgt
  ·have hcm:0≤cmpI (vd l) (vd l'):=by unfold cmpI;rw [if_neg (by omega)];split <;> omega
   have hlen:l'.length≤l.length:=norm_len h6' (by have:=vd_lt ok1;omega)
   generalize hgx:decide (x<0)=sx at *
   generalize hgy:decide (y<0)=sy at *
   have HGX:=Lib.hid hgx
   have HGY:=Lib.hid hgy
   clear hgx hgy
   go_enter Tryz.func184,Tryz.ntmps184
   go_wp2_with fail
   refine (less_any l l' A A' _ _ _ _ _ rfl rfl (by omega) (by omega) ok1 ok2 (B:=w.heap.size) (B':=w.heap.size) ?_ ?_).mono ?_
   ·exact (((hs1.alloc (Nat.le_refl _) _).alloc (by simp) _).alloc (by simp;omega) _)
   ·exact (((hs2.alloc (Nat.le_refl _) _).alloc (by simp) _).alloc (by simp;omega) _)
   rintro e w1 ⟨rfl,rfl⟩
   clear hsb2
   go_wp2_with fail
   generalize hW:((w.alloc (Obj.cells #[Value.bool sx,Value.slice A l.length c] 166)).alloc (Obj.cells #[Value.bool sy,Value.slice A' l'.length c'] 166)).alloc (Obj.cells #[Value.bool false,Value.slice none 0 0] 166)=W
   have hb0:Below w.heap.size w W:=by subst hW;go_grown
   have hr1:RdI W.drew W.drew.heap.size A l:=(h5.below hb0 (Nat.le_refl _)).rd
   have hr2:RdI W.drew W.drew.heap.size A' l':=(h5'.below hb0 (Nat.le_refl _)).rd
   have hK0:Bk W w.heap.size 166 #[.bool sx,.slice A l.length c]:=by subst hW;exact ((Bk.new _ _ _).alloc _).alloc _
   have hK1:Bk W (w.heap.size+1) 166 #[.bool sy,.slice A' l'.length c']:=by subst hW;simpa using (Bk.new (w.alloc _) 166 #[Value.bool sy,Value.slice A' l'.length c']).alloc _
   have hK2:Bk W (w.heap.size+1+1) 166 #[.bool false,.slice none 0 0]:=by subst hW;simpa using (Bk.new ((w.alloc _).alloc _) 166 #[.bool false,.slice none 0 0])
   obtain ⟨c00,c01⟩:=hK0.cell2
   obtain ⟨c10,c11⟩:=hK1.cell2
   have l0:=hK0.lt
   have l1:=hK1.lt
   have l2:=hK2.lt
   have HW:=Lib.hid hW
   clear hW
   have hK0d:=hK0.drew
   have hK1d:=hK1.drew
   have hK2d:=hK2.drew
   go_region_held3 (fun w'=>w'.cell? ⟨w.heap.size,0,none⟩=some (.bool sx)∧w'.cell? ⟨w.heap.size,1,none⟩=some (.slice A l.length c)∧w'.cell? ⟨w.heap.size+1,1,none⟩=some (.slice A' l'.length c'))
    (first | exact ⟨c00,c01,c11⟩|exact ⟨c00',c01',c11'⟩|exact ⟨c00'',c01'',c11''⟩|(refine ⟨?_,?_,?_⟩ <;> go_simp))
    (first
    | (go_at_call 260;(with_reducible refine (rest_any l l' A A' _ _ _ _ _ rfl rfl (by omega) hlen ok1 ok2 hge hr1 hr2).mono ?_);rintro e w1 ⟨v1,rfl,⟨A1,c1,m1,rfl,g2,g3,g4,g5,g6,g7⟩,hb1⟩;obtain ⟨c00',c01'⟩:=(hK0d.nx hb1).cell2;obtain ⟨c10',c11'⟩:=(hK1d.nx hb1).cell2;have hK2':=hK2d.nx hb1)
    | (go_at_call 256;refine (made_big _ A1 _ c1 _).mono ?_;rintro e w2 ⟨rfl,hb2⟩;have hK22:=hK2'.nx hb2;obtain ⟨c20,c21⟩:=hK22.cell2;have f20:=hK22.frozen 0;have f21:=hK22.frozen 1;obtain ⟨c00'',c01''⟩:=((hK0d.nx hb1).nx hb2).cell2;obtain ⟨c10'',c11''⟩:=((hK1d.nx hb1).nx hb2).cell2))
   go_wp2
   refine bodyPost_ret (res_big rfl (hK22.set2 _ _) rfl) rfl ?_
   have hz1:=hb1.size
   have hz2:=hb2.size
   simp only [World.size_drew] at hz1
   have hn:=norm_zero g6
   rw [g7,H7.out,H7'.out] at hn
   rw [H7.out,H7'.out] at hge
   have hsgn:(sx&&decide (0<m1.length))=decide (x+y<0):=by
    rw [← HGX.out]
    by_cases hm:m1=[]
    ·have:=hn.1 hm
     subst hm
     simp
     omega
    ·have h1:=List.length_pos_iff.2 hm
     have h2:¬_:=fun e=>hm (hn.2 e)
     simp [h1];omega
   have hbW:Below w.heap.size w w2:=((hb0.drew).trans (hb1.mono (by simp;omega))).trans (hb2.mono (by omega))
   refine ⟨_,rfl,⟨A1,c1,m1,by rw [← hsgn],g2,g3,g4,?_,g6,?_⟩,below_of_gb hbW (gb2 w2 _ _ _) (by omega) (by omega)⟩
   ·exact ((g5.below hb2 (Nat.le_refl _)).grown (gb2 w2 _ _ _) (fun g e=>.inl (by injection e with e;simp;omega))).less (by simp;omega)
   ·rw [g7,H7.out,H7'.out];omega
  ·have hcm:cmpI (vd l) (vd l')=-1:=by unfold cmpI;rw [if_pos (by omega)]
   have hge:vd l≤vd l':=by omega
   have hlen:l.length≤l'.length:=norm_len h6 (by have:=vd_lt ok2;omega)
   generalize hgx:decide (x<0)=sx at *
   generalize hgy:decide (y<0)=sy at *
   have HGX:=Lib.hid hgx
   have HGY:=Lib.hid hgy
   clear hgx hgy
   go_enter Tryz.func184,Tryz.ntmps184
   go_wp2_with fail
   refine (less_any l l' A A' _ _ _ _ _ rfl rfl (by omega) (by omega) ok1 ok2 (B:=w.heap.size) (B':=w.heap.size) ?_ ?_).mono ?_
   ·exact (((hs1.alloc (Nat.le_refl _) _).alloc (by simp) _).alloc (by simp;omega) _)
   ·exact (((hs2.alloc (Nat.le_refl _) _).alloc (by simp) _).alloc (by simp;omega) _)
   rintro e w1 ⟨rfl,rfl⟩
   clear hsb2
   go_wp2_with fail
   generalize hW:((w.alloc (Obj.cells #[Value.bool sx,Value.slice A l.length c] 166)).alloc (Obj.cells #[Value.bool sy,Value.slice A' l'.length c'] 166)).alloc (Obj.cells #[Value.bool false,Value.slice none 0 0] 166)=W
   have hb0:Below w.heap.size w W:=by subst hW;go_grown
   have hr1:RdI W.drew W.drew.heap.size A l:=(h5.below hb0 (Nat.le_refl _)).rd
   have hr2:RdI W.drew W.drew.heap.size A' l':=(h5'.below hb0 (Nat.le_refl _)).rd
   have hK0:Bk W w.heap.size 166 #[.bool sx,.slice A l.length c]:=by subst hW;exact ((Bk.new _ _ _).alloc _).alloc _
   have hK1:Bk W (w.heap.size+1) 166 #[.bool sy,.slice A' l'.length c']:=by subst hW;simpa using (Bk.new (w.alloc _) 166 #[Value.bool sy,Value.slice A' l'.length c']).alloc _
   have hK2:Bk W (w.heap.size+1+1) 166 #[.bool false,.slice none 0 0]:=by subst hW;simpa using (Bk.new ((w.alloc _).alloc _) 166 #[.bool false,.slice none 0 0])
   obtain ⟨c00,c01⟩:=hK0.cell2
   obtain ⟨c10,c11⟩:=hK1.cell2
   have l0:=hK0.lt
   have l1:=hK1.lt
   have l2:=hK2.lt
   have HW:=Lib.hid hW
   clear hW
   have hK0d:=hK0.drew
   have hK1d:=hK1.drew
   have hK2d:=hK2.drew
   go_region_held3 (fun w'=>w'.cell? ⟨w.heap.size+1,0,none⟩=some (.bool sy)∧w'.cell? ⟨w.heap.size,1,none⟩=some (.slice A l.length c)∧w'.cell? ⟨w.heap.size+1,1,none⟩=some (.slice A' l'.length c'))
    (first | exact ⟨c10,c01,c11⟩|exact ⟨c10',c01',c11'⟩|exact ⟨c10'',c01'',c11''⟩|(refine ⟨?_,?_,?_⟩ <;> go_simp))
    (first
    | (go_at_call 260;(with_reducible refine (rest_any l' l A' A _ _ _ _ _ rfl rfl (by omega) hlen ok2 ok1 hge hr2 hr1).mono ?_);rintro e w1 ⟨v1,rfl,⟨A1,c1,m1,rfl,g2,g3,g4,g5,g6,g7⟩,hb1⟩;obtain ⟨c00',c01'⟩:=(hK0d.nx hb1).cell2;obtain ⟨c10',c11'⟩:=(hK1d.nx hb1).cell2;have hK2':=hK2d.nx hb1)
    | (go_at_call 256;refine (made_big _ A1 _ c1 _).mono ?_;rintro e w2 ⟨rfl,hb2⟩;have hK22:=hK2'.nx hb2;obtain ⟨c20,c21⟩:=hK22.cell2;have f20:=hK22.frozen 0;have f21:=hK22.frozen 1;obtain ⟨c00'',c01''⟩:=((hK0d.nx hb1).nx hb2).cell2;obtain ⟨c10'',c11''⟩:=((hK1d.nx hb1).nx hb2).cell2))
   go_wp2
   refine bodyPost_ret (res_big rfl (hK22.set2 _ _) rfl) rfl ?_
   have hz1:=hb1.size
   have hz2:=hb2.size
   simp only [World.size_drew] at hz1
   have hn:=norm_zero g6
   rw [g7,H7.out,H7'.out] at hn
   rw [H7.out,H7'.out] at hge
   have hsgn:(sy&&decide (0<m1.length))=decide (x+y<0):=by
    rw [← HGY.out]
    by_cases hm:m1=[]
    ·have:=hn.1 hm
     subst hm
     simp
     omega
    ·have h1:=List.length_pos_iff.2 hm
     have h2:¬_:=fun e=>hm (hn.2 e)
     simp [h1];omega
   have hbW:Below w.heap.size w w2:=((hb0.drew).trans (hb1.mono (by simp;omega))).trans (hb2.mono (by omega))
   refine ⟨_,rfl,⟨A1,c1,m1,by rw [← hsgn],g2,g3,g4,?_,g6,?_⟩,below_of_gb hbW (gb2 w2 _ _ _) (by omega) (by omega)⟩
   ·exact ((g5.below hb2 (Nat.le_refl _)).grown (gb2 w2 _ _ _) (fun g e=>.inl (by injection e with e;simp;omega))).less (by simp;omega)
   ·rw [g7,H7.out,H7'.out];omega
end Go.Proofs.YtjbelhpgbcnlmaaGreat
end
section
set_option linter.unusedVariables false
namespace Go.Proofs.YtjbelhpgbcnlmaaGreat
open Go.RowKit
theorem BigN.form {lo:Nat} {w:World} {v:Value} {z:Int} (h:BigN lo w v z):∃ s A n c,v=.agg #[.bool s,.slice A n c]∧s=decide (z<0):=by
 obtain ⟨A,c,l,h1,_⟩:=h
 exact ⟨_,A,l.length,c,h1,rfl⟩
theorem BigN.shape {lo:Nat} {w:World} {v:Value} {z:Int} (h:BigN lo w v z):∃ s A n c,v=.agg #[.bool s,.slice A n c]:=by
 obtain ⟨A,c,l,h1,_⟩:=h
 exact ⟨_,A,l.length,c,h1⟩
theorem BigN.any {lo:Nat} {w:World} {v:Value} {z:Int} (h:BigN lo w v z):BigN 0 w v z:=h.less (Nat.zero_le _)
theorem sm_add {x y:Int} (hx:(x.natAbs:Int)<Bp 39) (hy:(y.natAbs:Int)<Bp 39):Sm (x+y):=by
 unfold Sm
 have e:=Bp39s
 omega
set_option maxRecDepth 100000 in
set_option maxHeartbeats 400000 in
theorem sub_any (va vb:Value) (x y:Int) (w:World) {lo lo':Nat} (ha:BigN lo w va x) (hb:BigN lo' w vb y) (hsa:Sm x) (hsb:Sm y) :
 Calls Tryz.prog 134 #[va,vb] w fun e w'=>∃ v,e=.returned v∧BigN w.heap.size w' v (x-y)∧Below w.heap.size w w':=by
 obtain ⟨s,A,n,c,rfl⟩:=ha.shape
 obtain ⟨s',A',n',c',rfl⟩:=hb.shape
 go_enter Tryz.func134,Tryz.ntmps134
 go_wp2_with fail
 generalize hW:((w.alloc (Obj.cells #[Value.bool s,Value.slice A n c] 166)).alloc (Obj.cells #[Value.bool s',Value.slice A' n' c'] 166)).alloc (Obj.cells #[Value.bool false,Value.slice none 0 0] 166)=W
 have hb0:Below w.heap.size w W:=by subst hW;go_grown
 have ha1:BigN lo W.drew _ x:=(ha.nx hb0).drew
 have hb1:BigN lo' W.drew _ y:=(hb.nx hb0).drew
 have hK0:Bk W w.heap.size 166 #[.bool s,.slice A n c]:=by subst hW;exact ((Bk.new _ _ _).alloc _).alloc _
 have hK1:Bk W (w.heap.size+1) 166 #[.bool s',.slice A' n' c']:=by subst hW;simpa using (Bk.new (w.alloc _) 166 #[Value.bool s',Value.slice A' n' c']).alloc _
 have hK2:Bk W (w.heap.size+1+1) 166 #[.bool false,.slice none 0 0]:=by subst hW;simpa using (Bk.new ((w.alloc _).alloc _) 166 #[.bool false,.slice none 0 0])
 obtain ⟨c00,c01⟩:=hK0.cell2
 obtain ⟨c10,c11⟩:=hK1.cell2
 have l0:=hK0.lt
 have l1:=hK1.lt
 have l2:=hK2.lt
 have HW:=Lib.hid hW
 clear hW
 have hK0d:=hK0.drew
 have hK1d:=hK1.drew
 have hK2d:=hK2.drew
 have hsn:Sm (-y):=by unfold Sm at *;omega
 go_region_held3 (fun w'=>w'.cell? ⟨w.heap.size,0,none⟩=some (.bool s)∧w'.cell? ⟨w.heap.size,1,none⟩=some (.slice A n c)∧w'.cell? ⟨w.heap.size+1,0,none⟩=some (.bool s')∧w'.cell? ⟨w.heap.size+1,1,none⟩=some (.slice A' n' c'))
  (first | exact ⟨c00,c01,c10,c11⟩|exact ⟨c00',c01',c10',c11'⟩|exact ⟨c00'',c01'',c10'',c11''⟩|(refine ⟨?_,?_,?_,?_⟩ <;> go_simp))
  (first
  | (go_at_call 183;(with_reducible refine (neg_any _ y _ hb1 hsb).mono ?_);rintro e w1 ⟨v1,rfl,hN1,hb1'⟩;obtain ⟨s1,A1,n1,c1,rfl⟩:=hN1.shape;obtain ⟨c00',c01'⟩:=(hK0d.nx hb1').cell2;obtain ⟨c10',c11'⟩:=(hK1d.nx hb1').cell2;have hK2':=hK2d.nx hb1';have ha2:=ha1.nx hb1')
  | (go_at_call 184;(with_reducible refine (add_any _ _ x (-y) _ ha2 hN1 hsa hsn).mono ?_);rintro e w2 ⟨v2,rfl,hN2,hb2⟩;obtain ⟨s2,A2,n2,c2,rfl⟩:=hN2.shape;have hK22:=hK2'.nx hb2;obtain ⟨c20,c21⟩:=hK22.cell2;have f20:=hK22.frozen 0;have f21:=hK22.frozen 1;obtain ⟨c00'',c01''⟩:=((hK0d.nx hb1').nx hb2).cell2;obtain ⟨c10'',c11''⟩:=((hK1d.nx hb1').nx hb2).cell2))
 go_wp2
 refine bodyPost_ret (res_big rfl (hK22.set2 _ _) rfl) rfl ?_
 have hz1:=hb1'.size
 have hz2:=hb2.size
 simp only [World.size_drew] at hz1
 have hbW:Below w.heap.size w w2:=((hb0.drew).trans (hb1'.mono (by simp;omega))).trans (hb2.mono (by omega))
 refine ⟨_,rfl,?_,below_of_gb hbW (gb2 w2 _ _ _) (by omega) (by omega)⟩
 rw [show x-y=x+-y by omega]
 exact (hN2.grown (gb2 w2 _ _ _) (.inl (by omega))).less (by omega)
set_option maxRecDepth 100000 in
set_option maxHeartbeats 1000000 in
theorem cmp_any (va vb:Value) (x y:Int) (w:World) {lo lo':Nat} (ha:BigN lo w va x) (hb:BigN lo' w vb y) (hsa:Sm x) (hsb:Sm y) :
 Calls Tryz.prog 131 #[va,vb] w fun e w'=>e=.returned (.int .i64 (cmpI x y))∧Below w.heap.size w w':=by
 obtain ⟨s,A,n,c,rfl⟩:=ha.shape
 obtain ⟨s',A',n',c',rfl⟩:=hb.shape
 go_enter Tryz.func131,Tryz.ntmps131
 go_wp2_with fail
 have hb0:Below w.heap.size w ((w.alloc (Obj.cells #[Value.bool s,Value.slice A n c] 166)).alloc (Obj.cells #[Value.bool s',Value.slice A' n' c'] 166)):=by go_grown
 refine (sub_any _ _ x y _ (ha.nx hb0) (hb.nx hb0) hsa hsb).mono ?_
 rintro e w1 ⟨v1,rfl,⟨A1,c1,l1,rfl,h2,h3,h4,h5,h6,h7⟩,hb1⟩
 have hbe:=hb0.trans (hb1.mono (by simp;omega))
 have hz:=norm_zero h6
 rw [h7] at hz
 have H7:=Lib.hid h7
 have HZ:=Lib.hid hz
 clear h7 hz
 rcases Int.lt_trichotomy x y with hlt|hlt|hlt
 ·have hne:0<l1.length:=by
   rcases Nat.eq_zero_or_pos l1.length with e|e
   ·have:=HZ.out.1 (List.eq_nil_of_length_eq_zero e);omega
   ·exact e
  have hnb:((l1.length:Int)==0)=false:=by simp;exact List.length_pos_iff.1 hne
  generalize l1.length=n1 at *
  have hd:decide (x-y<0)=true:=by simp;omega
  rw [hd]
  clear hd h5 h6 H7 HZ
  go_wp2
  go_returns
  exact ⟨ret_int (by unfold cmpI;rw [if_pos hlt]),hbe.alloc (by have:=hb1.size;simp at this;omega) _⟩
 ·have hne:l1.length=0:=by rw [HZ.out.2 (by omega)];rfl
  obtain rfl:l1=[]:=List.eq_nil_of_length_eq_zero hne
  clear hne
  go_wp2
  go_returns
  exact ⟨ret_int (by unfold cmpI;rw [if_neg (by omega),if_neg (by omega)]),hbe.alloc (by have:=hb1.size;simp at this;omega) _⟩
 ·have hne:0<l1.length:=by
   rcases Nat.eq_zero_or_pos l1.length with e|e
   ·have:=HZ.out.1 (List.eq_nil_of_length_eq_zero e);omega
   ·exact e
  have hnb:((l1.length:Int)==0)=false:=by simp;exact List.length_pos_iff.1 hne
  generalize l1.length=n1 at *
  have hd:decide (x-y<0)=false:=by simp;omega
  rw [hd]
  clear hd h5 h6 H7 HZ
  go_wp2
  go_returns
  exact ⟨ret_int (by unfold cmpI;rw [if_neg (by omega),if_pos hlt]),hbe.alloc (by have:=hb1.size;simp at this;omega) _⟩
theorem vd_drop_le {l:List Int} (h:okd l) (k:Nat):vd (l.drop k)≤vd l:=by
 by_cases hk:k≤l.length
 ·have h1:=vd_split l k hk
  have h2:=vd_nonneg (okd_take h k)
  have h3:=vd_nonneg (okd_drop h k)
  have h4:=Bp_pos k
  have:=Int.mul_le_mul_of_nonneg_right h4 h3
  omega
 ·rw [List.drop_eq_nil_of_le (by omega)];exact vd_nonneg h
set_option maxHeartbeats 1000000 in
theorem unsigned_any (va:Value) (x:Int) (w:World) {lo:Nat} (ha:BigN lo w va x) (hx:(x.natAbs:Int)≤18446744073709551615) :
 Calls Tryz.prog 207 #[va] w fun e w'=>e=.returned (.int .u64 x.natAbs)∧Below w.heap.size w w':=by
 obtain ⟨A,c,l,rfl,h2,h3,h4,h5,h6,h7⟩:=ha
 have hl:=sm_len (show Sm x by unfold Sm;rw [Bp40];omega) h6 h7
 have ok:=h6.1
 have hr:=h5.rd
 have H7:=Lib.hid h7
 have hv:vd l≤18446744073709551615:=by omega
 clear h7
 generalize decide (x<0)=sx
 go_enter Tryz.func207,Tryz.ntmps207
 go_wp2
 go_loop [3,4] (fun y i=>∃ k:Nat,k≤l.length∧i=.int .i64 ((k:Int)-1)∧y=.int .u64 (vd (l.drop k))) (fun _ i=>(intOf i+1).toNat)
 case atStart=>exact ⟨l.length,Nat.le_refl _,rfl,by simp [vd]⟩
 case round =>
  obtain ⟨k,hk,rfl,rfl⟩:=hrel
  rcases Nat.eq_zero_or_pos k with h0|h0
  ·subst h0
   go_wp2
   go_returns
   exact ⟨ret_int (by have:=H7.out;simpa using this),by go_grown⟩
  ·obtain ⟨j,rfl⟩:∃ j,k=j+1:=⟨k-1,by omega⟩
   have e1:((j+1:Nat):Int)-1=j:=by omega
   have hE1:=Lib.hid e1
   simp only [e1]
   clear e1
   obtain ⟨b,o,rfl,hb,hc⟩:=RdI.get hr j (by omega)
   have hd:=ok l[j] (List.getElem_mem _)
   have hs:=vd_drop l j
   have e2:dgt l j=l[j]:=by simp [dgt,List.getElem?_eq_getElem (show j<l.length by omega)]
   rw [e2] at hs
   have hle:=vd_drop_le ok j
   have hnn:=vd_nonneg (okd_drop ok (j+1))
   have HS:=Lib.hid hs
   have hle2:l[j]+32768*vd (l.drop (j+1))≤18446744073709551615:=by omega
   clear hs hle e2
   generalize l[j]=z at *
   generalize vd (l.drop (j+1))=y at *
   go_wp2
   exact ⟨⟨j,by omega,rfl,by rw [HS.out];exact val_int (by omega)⟩,by simp [intOf]⟩
set_option maxHeartbeats 1000000 in
theorem small_any (va:Value) (x:Int) (w:World) {lo:Nat} (ha:BigN lo w va x) (h0:-9223372036854775808≤x) (h1:x≤9223372036854775807) :
 Calls Tryz.prog 133 #[va] w fun e w'=>e=.returned (.int .i64 x)∧Below w.heap.size w w':=by
 obtain ⟨s,A,n,c,rfl,hs⟩:=ha.form
 by_cases hx:x<0
 ·have hs':s=true:=by rw [hs];simpa using hx
  subst hs'
  clear hs
  go_enter Tryz.func133,Tryz.ntmps133
  go_wp2_with (go_at_call 207;(with_reducible refine (unsigned_any _ x _ (ha.alloc _) (by omega)).mono ?_);rintro e w1 ⟨rfl,hb⟩;have hcb:=bcell hb)
  go_returns
  exact ⟨ret_int (by unfold wrap64;omega),((Below.refl _ w).alloc (Nat.le_refl _) _).trans (hb.mono (by simp))⟩
 ·have hs':s=false:=by rw [hs];simpa using hx
  subst hs'
  clear hs
  go_enter Tryz.func133,Tryz.ntmps133
  go_wp2_with (go_at_call 207;(with_reducible refine (unsigned_any _ x _ (ha.alloc _) (by omega)).mono ?_);rintro e w1 ⟨rfl,hb⟩;have hcb:=bcell hb)
  go_returns
  exact ⟨ret_int (by omega),((Below.refl _ w).alloc (Nat.le_refl _) _).trans (hb.mono (by simp))⟩
set_option maxHeartbeats 1000000 in
theorem pow_any1 (n:Nat) (w:World) (hn:n≤128) :
 Calls Tryz.prog 202 #[.int .i64 n] w fun e w'=>∃ v,e=.returned v∧BigN w.heap.size w' v (2^n)∧Below w.heap.size w w':=by
 go_enter Tryz.func202,Tryz.ntmps202
 go_wp2_with fail
 refine (of_any 1 _ (by omega) (by omega)).mono ?_
 rintro e w1 ⟨v1,rfl,hN1,hb1⟩
 obtain ⟨s1,A1,n1,c1,rfl⟩:=hN1.shape
 simp only [World.size_alloc] at hN1
 have hz1:=hb1.size
 simp only [World.size_alloc] at hz1
 have hK1:=((Bk.new w 166 #[.bool false,.slice none 0 0]).nx hb1).alloc (.cells #[.bool s1,.slice A1 n1 c1] 166)
 have hK3:=Bk.new w1 166 #[.bool s1,.slice A1 n1 c1]
 have hN3:=hN1.alloc (.cells #[.bool s1,.slice A1 n1 c1] 166)
 have hbz:Below w.heap.size w (w1.alloc (.cells #[.bool s1,.slice A1 n1 c1] 166)):=(((Below.refl _ w).alloc (Nat.le_refl _) _).trans (hb1.mono (by simp))).alloc (by omega) _
 clear hN1 hb1
 go_wp2_with fail
 go_loopw [4] (fun i wr=>∃ k:Nat,k≤n∧i=.int .i64 k∧Bk wr w.heap.size 166 #[.bool false,.slice none 0 0]∧Below w.heap.size w wr∧∃ s A m c,Bk wr w1.heap.size 166 #[.bool s,.slice A m c]∧BigN (w.heap.size+1) wr (.agg #[.bool s,.slice A m c]) (2^k)) (fun i _=>n-(intOf i).toNat)
 case atStart=>exact ⟨0,by omega,rfl,hK1,hbz,s1,A1,n1,c1,hK3,hN3⟩
 case round =>
  clear hK1 hK3 hN3 hbz
  obtain ⟨k,hk,rfl,hK1,hbz,s,A,m,c,hK3,hN3⟩:=hrel
  have hl1:=hK1.lt
  have hl3:=hK3.lt
  by_cases hlt:k<n
  ·have hp:(1:Int)≤2^k∧(2:Int)^k≤340282366920938463463374607431768211456:=by
    have h1:(2:Nat)^k≤2^128:=Nat.pow_le_pow_right (by decide) (by omega)
    have h2:1≤(2:Nat)^k:=Nat.one_le_two_pow
    have e:((2:Int)^k)=((2^k:Nat):Int):=by simp
    rw [e];omega
   have hs:Sm (2^k):=sm_of (by omega) (by omega)
   have HP:Hid ((2:Int)^(k+1)=2^k+2^k):=by show _=_;rw [Int.pow_succ];omega
   clear hp
   go_wp2_with (first
    | (refine ldBig rfl _ rfl hK3 rfl ?_)
    | (go_at_call 184;(with_reducible refine (add_any _ _ (2^k) (2^k) _ hN3 hN3 hs hs).mono ?_);rintro e w5 ⟨v5,rfl,hN5,hb5⟩;obtain ⟨s5,A5,n5,c5,rfl⟩:=hN5.shape;have hK35:=hK3.nx hb5;have hK15:=hK1.nx hb5;have hz5:=hb5.size)
    | (refine stBig rfl _ _ rfl hK35 rfl rfl rfl ?_;intro w6 hK6 hg6 hs6))
   refine ⟨⟨k+1,by omega,by go_num,hK15.grown hg6 (fun e=>by injection e with e;omega),below_of_gb (hbz.trans (hb5.mono (by omega))) hg6 (by omega) (by omega),s5,A5,n5,c5,hK6,?_⟩,by simp [intOf];omega⟩
   rw [HP.out]
   exact (hN5.grown hg6 (.inl (by omega))).less (by omega)
  ·obtain rfl:k=n:=by omega
   go_wp2_with (first
    | (refine ldBig rfl _ rfl hK3 rfl ?_)
    | (refine stBig rfl _ _ rfl hK1 rfl rfl rfl ?_;intro w6 hK6 hg6 hs6))
   refine bodyPost_ret (res_big rfl hK6 rfl) rfl ?_
   exact ⟨_,rfl,(hN3.grown hg6 (.inl (by omega))).less (by omega),below_of_gb hbz hg6 (by omega) (by omega)⟩
end Go.Proofs.YtjbelhpgbcnlmaaGreat
end
section
set_option linter.unusedVariables false
namespace Go.Proofs.YtjbelhpgbcnlmaaGreat
open Go.RowKit
def MulI (a b o:List Int) (i k:Nat) (c:Int):Prop :=
 okd o∧o.length=a.length+b.length+1∧(∀ j,i+b.length≤j→dgt o j=0)∧0≤c∧c≤32767∧vd o+Bp (i+k)*c=vd (a.take i)*vd b+Bp i*(dgt a i*vd (b.take k))
def MulO (a b o:List Int) (i:Nat):Prop :=
 okd o∧o.length=a.length+b.length+1∧(∀ j,i+b.length≤j→dgt o j=0)∧vd o=vd (a.take i)*vd b
theorem dgt_zeros (n j:Nat):dgt (List.replicate n 0) j=0:=by
 unfold dgt
 by_cases h:j<n
 ·rw [List.getElem?_eq_getElem (by simpa using h)];simp
 ·rw [List.getElem?_eq_none (by simpa using h)];rfl
theorem mulO_zero (a b:List Int):MulO a b (List.replicate (a.length+b.length+1) 0) 0 :=
 ⟨fun d hd=>by rw [List.eq_of_mem_replicate hd];omega,by simp,fun j _=>dgt_zeros _ j,by simp [vd_zeros,vd]⟩
theorem mulI_zero {a b o:List Int} {i:Nat} (h:MulO a b o i):MulI a b o i 0 0:=by
 obtain ⟨h1,h2,h3,h4⟩:=h
 exact ⟨h1,h2,h3,by omega,by omega,by simp [h4,vd]⟩
theorem bmul_bd {a b:List Int} (ha:okd a) (hb:okd b) {o:List Int} (ho:okd o) {c:Int} (hc:0≤c∧c≤32767) (i k j:Nat) :
 0≤dgt a i*dgt b k∧dgt a i*dgt b k≤1073676289∧0≤dgt o j+dgt a i*dgt b k+c∧(dgt o j+dgt a i*dgt b k+c)/32768≤32767:=by
 have h1:=dgt_ok ha i
 have h2:=dgt_ok hb k
 have h3:=dgt_ok ho j
 have h4:dgt a i*dgt b k≤32767*32767:=Int.mul_le_mul h1.2 h2.2 h2.1 (by omega)
 have h5:0≤dgt a i*dgt b k:=Int.mul_nonneg h1.1 h2.1
 refine ⟨h5,by omega,by omega,by omega⟩
theorem mulI_step {a b o:List Int} {i k:Nat} {c:Int} (ha:okd a) (hb:okd b) (hi:i<a.length) (hk:k<b.length) (h:MulI a b o i k c) :
 MulI a b (o.set (i+k) ((dgt o (i+k)+dgt a i*dgt b k+c)%32768)) i (k+1) ((dgt o (i+k)+dgt a i*dgt b k+c)/32768):=by
 obtain ⟨h1,h2,h3,h4,h5,h6⟩:=h
 have hbd:=bmul_bd ha hb h1 ⟨h4,h5⟩ i k (i+k)
 refine ⟨okd_set h1 _ _ (by omega),by simpa using h2,fun j hj=>?_,by omega,hbd.2.2.2,?_⟩
 ·rw [dgt_set _ _ _ _ (by omega),if_neg (by omega)];exact h3 j hj
 ·rw [vd_set _ _ _ (by omega),vd_take_succ,← Nat.add_assoc,Bp,Int.mul_add,Int.mul_add]
  generalize dgt o (i+k)=x at *
  generalize dgt a i=u at *
  generalize dgt b k=v at *
  have e1:Bp (i+k)*((x+u*v+c)%32768-x)+32768*Bp (i+k)*((x+u*v+c)/32768)=Bp (i+k)*(u*v+c):=by
   rw [Int.mul_comm 32768 (Bp (i+k)),Int.mul_assoc,← Int.mul_add]
   congr 1
   omega
  have e2:Bp i*(u*(Bp k*v))=Bp (i+k)*(u*v):=by
   rw [Bp_add,Int.mul_left_comm u,Int.mul_assoc]
  rw [e2]
  rw [Int.mul_add (Bp (i+k)) (u*v) c] at e1
  omega
theorem mulI_done {a b o:List Int} {i:Nat} {c:Int} (hi:i<a.length) (h:MulI a b o i b.length c) :
 MulO a b (o.set (i+b.length) (dgt o (i+b.length)+c)) (i+1):=by
 obtain ⟨h1,h2,h3,h4,h5,h6⟩:=h
 have hz:=h3 (i+b.length) (Nat.le_refl _)
 refine ⟨okd_set h1 _ _ (by omega),by simpa using h2,fun j hj=>?_,?_⟩
 ·rw [dgt_set _ _ _ _ (by omega),if_neg (by omega)];exact h3 j (by omega)
 ·have e:dgt o (i+b.length)+c-dgt o (i+b.length)=c:=by omega
  rw [vd_set _ _ _ (by omega),e,vd_take_succ,Int.add_mul]
  rw [List.take_of_length_le (Nat.le_refl _)] at h6
  have:Bp i*dgt a i*vd b=Bp i*(dgt a i*vd b):=by rw [Int.mul_assoc]
  rw [this]
  omega
theorem mulO_end {a b o:List Int} (h:MulO a b o a.length):vd o=vd a*vd b:=by
 have:=h.2.2.2
 rwa [List.take_of_length_le (Nat.le_refl _)] at this
theorem getD_dgt {l:List Int} {i:Nat} (h:i<l.length):l[i]=dgt l i:=by simp [dgt,List.getElem?_eq_getElem h]
theorem map_get {l:List Int} {i:Nat} (h:i<l.length):(l.map (Value.int .i64))[i]?=some (.int .i64 (dgt l i)):=by
 rw [List.getElem?_map,List.getElem?_eq_getElem h,← getD_dgt h];rfl
def MulS (w wr:World) (sx sy:Bool) (A A':Option Addr) (n n' c c':Nat) (o:List Int):Prop :=
 Bk wr w.heap.size 166 #[.bool sx,.slice A n c]∧Bk wr (w.heap.size+1) 166 #[.bool sy,.slice A' n' c']∧Bk wr (w.heap.size+1+1) 166 #[.bool false,.slice none 0 0] ∧
 wr.ownsRow (w.heap.size+1+1+1) 3 1 (.slice (some ⟨w.heap.size+1+1+1,0,none⟩) (n+n'+1) (n+n'+1)) (n+n'+1) (o.map (Value.int .i64))∧Below w.heap.size w wr
theorem MulS.drew {w wr:World} {sx sy:Bool} {A A':Option Addr} {n n' c c':Nat} {o:List Int} (h:MulS w wr sx sy A A' n n' c c' o):MulS w wr.drew sx sy A A' n n' c c' o :=
 ⟨h.1.drew,h.2.1.drew,h.2.2.1.drew,h.2.2.2.1.drew,h.2.2.2.2.drew⟩
theorem MulS.drewN {w wr:World} {sx sy:Bool} {A A':Option Addr} {n n' c c':Nat} {o:List Int} (h:MulS w wr sx sy A A' n n' c c' o) (k:Nat):MulS w (wr.drewN k) sx sy A A' n n' c c' o :=
 ⟨h.1.drewN k,h.2.1.drewN k,h.2.2.1.drewN k,h.2.2.2.1,below_drewN h.2.2.2.2 k⟩
theorem MulS.store {w wr:World} {sx sy:Bool} {A A':Option Addr} {n n' c c':Nat} {o:List Int} (h:MulS w wr sx sy A A' n n' c c' o) (j:Nat) (z:Int) :
 MulS w (wr.setCell ⟨w.heap.size+1+1+1,j,none⟩ (.int .i64 z)) sx sy A A' n n' c c' (o.set j z):=by
 obtain ⟨h1,h2,h3,h4,h5⟩:=h
 refine ⟨h1.far (by simp;omega) _,h2.far (by simp) _,h3.far (by simp) _,?_,h5.setCell (by simp;omega) _⟩
 rw [List.map_set]
 exact (h4.stored j (.int .i64 z)).1
set_option maxRecDepth 100000 in
set_option maxHeartbeats 2000000 in
theorem mul_any (va vb:Value) (x y:Int) (w:World) {lo lo':Nat} (ha:BigN lo w va x) (hb:BigN lo' w vb y) (hsa:Sm x) (hsb:Sm y) :
 Calls Tryz.prog 181 #[va,vb] w fun e w'=>∃ v,e=.returned v∧BigN w.heap.size w' v (x*y)∧Below w.heap.size w w':=by
 obtain ⟨A,c,l,rfl,h2,h3,h4,h5,h6,h7⟩:=ha
 obtain ⟨A',c',l',rfl,h2',h3',h4',h5',h6',h7'⟩:=hb
 have hl:=sm_len hsa h6 h7
 have hl':=sm_len hsb h6' h7'
 have H7:=Lib.hid h7
 have H7':=Lib.hid h7'
 have ok1:=h6.1
 have ok2:=h6'.1
 clear h7 h7' h2 h3 h4 h2' h3' h4'
 generalize hsx:decide (x<0)=sx
 generalize hsy:decide (y<0)=sy
 have HSX:=Lib.hid hsx
 have HSY:=Lib.hid hsy
 clear hsx hsy
 have hmk:=fun W=>run_make1 (P:=Tryz.prog) Tryz.underlying120 big_int_info rfl ((l.length:Int)+l'.length+1) (l.length+l'.length+1) (by omega) (by omega) (by omega) W
 go_enter Tryz.func181,Tryz.ntmps181
 go_wp2
 go_loopw [6] (fun iv wr=>∃ (i:Nat) (o:List Int),i≤l.length∧iv=.int .i64 i∧MulO l l' o i∧MulS w wr sx sy A A' l.length l'.length c c' o) (fun iv _=>l.length-(intOf iv).toNat)
 case atStart =>
  refine ⟨0,List.replicate (l.length+l'.length+1) 0,Nat.zero_le _,rfl,mulO_zero l l',?_,?_,?_,?_,by go_grown⟩
  ·exact ((Bk.new w _ _).alloc _).alloc _ |>.alloc _
  ·simpa using ((Bk.new (w.alloc _) 166 #[Value.bool sy,Value.slice A' l'.length c']).alloc _).alloc _
  ·simpa using (Bk.new ((w.alloc _).alloc _) 166 #[.bool false,.slice none 0 0]).alloc _
  ·simpa using own_of_Bk (base:=w.heap.size+1+1+1) (Bk.new (((w.alloc _).alloc _).alloc _) 3 (Array.replicate (l.length+l'.length+1) (.int .i64 0))) (l.length+l'.length+1) (by simp) (by omega) (by simp)
 case round =>
  obtain ⟨i,o,hi,rfl,hO,hS⟩:=hrel
  by_cases hlt:i<l.length
  ·have hI:=mulI_zero hO
   obtain ⟨q1,q2⟩:=hS.1.cell2
   obtain ⟨q3,q4⟩:=hS.2.1.cell2
   go_wp2_with fail
   clear q1 q2 q3 q4 hO
   obtain ⟨wo,rfl⟩:∃ wo:World,wo=wr:=⟨_,rfl⟩
   go_loopw [7,8] (fun cv kv wr=>∃ (k:Nat) (o:List Int) (cc:Int),k≤l'.length∧kv=.int .i64 k∧cv=.int .i64 cc∧MulI l l' o i k cc∧MulS w wr sx sy A A' l.length l'.length c c' o) (fun _ kv _=>l'.length-(intOf kv).toNat)
   case atStart=>exact ⟨0,o,0,Nat.zero_le _,rfl,rfl,hI,hS⟩
   case round =>
    clear hI hS
    obtain ⟨k,o,cc,hk,rfl,rfl,hI,hS⟩:=hrel
    have hr1:=(h5.below hS.2.2.2.2 (Nat.le_refl _)).rd
    have hr2:=(h5'.below hS.2.2.2.2 (Nat.le_refl _)).rd
    obtain ⟨b1,o1,rfl,hb1,hc1⟩:=RdI.get hr1 i (by omega)
    rw [getD_dgt] at hc1
    have hol:=hI.2.1
    obtain ⟨q1,q2⟩:=hS.1.cell2
    obtain ⟨q3,q4⟩:=hS.2.1.cell2
    by_cases hlt2:k<l'.length
    ·obtain ⟨b2,o2,rfl,hb2,hc2⟩:=RdI.get hr2 k (by omega)
     rw [getD_dgt] at hc2
     have hbd:=bmul_bd ok1 ok2 hI.1 ⟨hI.2.2.2.1,hI.2.2.2.2.1⟩ i k (i+k)
     have hdo:=dgt_ok hI.1 (i+k)
     have hcc0:=hI.2.2.2.1
     have hcc1:=hI.2.2.2.2.1
     have hc3:=hS.2.2.2.1.cellAt (i+k) (by omega)
     rw [map_get (by omega)] at hc3
     have hf3:=hS.2.2.2.1.frozenAt (i+k)
     have hst:=hS.store (i+k) ((dgt o (i+k)+dgt l i*dgt l' k+cc)%32768)
     have HI:=Lib.hid (mulI_step ok1 ok2 hlt hlt2 hI)
     have HL:=Lib.hid hol
     clear hI hol
     generalize dgt o (i+k)=xo at *
     generalize hxa:dgt l i=xa at *
     generalize hxb:dgt l' k=xb at *
     have HXA:=Lib.hid hxa
     have HXB:=Lib.hid hxb
     clear hxa hxb
     go_wp2_with fail
     go_quiet (fail)
     go_wp2
     exact ⟨⟨k+1,_,_,by omega,by go_num,rfl,HI.out,(hS.drewN _).store _ _⟩,by simp [intOf];omega⟩
    ·obtain rfl:k=l'.length:=by omega
     have hcc0:=hI.2.2.2.1
     have hcc1:=hI.2.2.2.2.1
     have hz0:=hI.2.2.1 (i+l'.length) (Nat.le_refl _)
     have hc3:=hS.2.2.2.1.cellAt (i+l'.length) (by omega)
     rw [map_get (by omega),hz0] at hc3
     have hf3:=hS.2.2.2.1.frozenAt (i+l'.length)
     have HI:=Lib.hid (mulI_done hlt hI)
     have HZ:=Lib.hid hz0
     clear hI hz0 hol
     go_wp2_with fail
     go_region
     all_goals
      go_wp2
      have hI2:=HI.out
      rw [HZ.out,Int.zero_add] at hI2
      exact ⟨⟨i+1,_,by omega,by go_num,hI2,(hS.store _ cc).drew⟩,by simp [intOf];omega⟩
  ·obtain rfl:i=l.length:=by omega
   have hv:=mulO_end hO
   have hok:=hO.1
   have hol:=hO.2.1
   have HV:=Lib.hid hv
   have HOL:=Lib.hid hol
   clear hv hol hO
   obtain ⟨hK0,hK1,hK2,hown,hb0⟩:=hS
   obtain ⟨q1,q2⟩:=hK0.cell2
   obtain ⟨q3,q4⟩:=hK1.cell2
   have hrd:RdI wr.drew wr.heap.size (some ⟨w.heap.size+1+1+1,0,none⟩) o:=Rd.of_own hown
   have hrl:=RdL.of_own hown
   have hl2:=hK2.lt
   have hK2d:=hK2.drew
   have hK0d:=hK0.drew
   have hK1d:=hK1.drew
   go_wp2_with fail
   go_region_held3 (fun w'=>w'.cell? ⟨w.heap.size,0,none⟩=some (.bool sx)∧w'.cell? ⟨w.heap.size+1,0,none⟩=some (.bool sy))
    (first | exact ⟨q1,q3⟩|exact ⟨q1',q3'⟩|(refine ⟨?_,?_⟩ <;> go_simp))
    (first
    | (go_at_call 257;(with_reducible refine (trim_any o _ (l.length+l'.length+1) _ _ (B:=wr.heap.size) HOL.out (by omega) (by omega) (by omega) (by intro e;cases e) hrd).mono ?_);rintro e w1 ⟨rfl,rfl⟩)
    | (go_at_call 256;refine (made_big _ _ _ _ _).mono ?_;rintro e w2 ⟨rfl,hb2⟩;have hK22:=hK2d.nx hb2;obtain ⟨c20,c21⟩:=hK22.cell2;have f20:=hK22.frozen 0;have f21:=hK22.frozen 1;have q1':=(hK0d.nx hb2).cell2.1;have q3':=(hK1d.nx hb2).cell2.1))
   go_wp2
   refine bodyPost_ret (res_big rfl (hK22.set2 _ _) rfl) rfl ?_
   have hz2:=hb2.size
   simp only [World.size_drew] at hz2
   have hnt:=tr_norm hok
   have hvt:vd (tr o)=((x*y).natAbs:Int):=by rw [tr_vd,HV.out,H7.out,H7'.out,Int.natAbs_mul];simp
   have hn:=norm_zero hnt
   rw [hvt] at hn
   have hsgn:(!(sx==sy)&&decide (0<(tr o).length))=decide (x*y<0):=by
    rw [← HSX.out,← HSY.out]
    by_cases hm:tr o=[]
    ·have h0:=hn.1 hm
     rw [hm]
     simp
     omega
    ·have h1:=List.length_pos_iff.2 hm
     have hne:x*y≠0:=fun e=>hm (hn.2 (by rw [e];rfl))
     have hx0:x≠0:=fun e=>hne (by rw [e,Int.zero_mul])
     have hy0:y≠0:=fun e=>hne (by rw [e,Int.mul_zero])
     simp only [h1,decide_true,Bool.and_true]
     rcases Int.lt_or_gt_of_ne hx0 with hx|hx <;> rcases Int.lt_or_gt_of_ne hy0 with hy|hy
     ·have:=Int.mul_pos_of_neg_of_neg hx hy
      simp [hx,hy];omega
     ·have:=Int.mul_neg_of_neg_of_pos hx hy
      simp [hx,this];omega
     ·have:=Int.mul_neg_of_pos_of_neg hx hy
      simp [hy,this];omega
     ·have:=Int.mul_pos hx hy
      have h5:¬x<0:=by omega
      have h6:¬y<0:=by omega
      have h7:¬x*y<0:=by omega
      simp [h5,h6,h7]
   have hbW:Below w.heap.size w w2:=(hb0.drew).trans (hb2.mono (by simp;omega))
   have hle:=tr_le o
   rw [HOL.out] at hle
   refine ⟨_,rfl,⟨some ⟨w.heap.size+1+1+1,0,none⟩,l.length+l'.length+1,tr o,by rw [← hsgn],hle,by simp only [maxLen];omega,(by intro e;cases e),?_,hnt,hvt⟩,below_of_gb hbW (gb2 w2 _ _ _) (by omega) (by omega)⟩
   rw [tr_take,List.map_take]
   have hd:RdL wr.drew (w.heap.size+1+1+1) (some ⟨w.heap.size+1+1+1,0,none⟩) (o.map (Value.int .i64)):=hrl
   exact (((hd.take _).below hb2 (Nat.le_refl _)).grown (gb2 w2 _ _ _) (fun g e=>.inl (by injection e with e;omega))).less (by omega)
end Go.Proofs.YtjbelhpgbcnlmaaGreat
end
section
set_option linter.unusedVariables false
namespace Go.Proofs.YtjbelhpgbcnlmaaGreat
theorem div_uniq {x y q:Int} (hy:0<y) (h1:q*y≤x) (h2:x<q*y+y):x/y=q:=by
 have h3:=Int.le_ediv_of_mul_le hy h1
 have h4:=Int.ediv_lt_of_lt_mul hy (show x<(q+1)*y by rw [Int.add_mul,Int.one_mul];exact h2)
 omega
def flo (x y:Int):Int:=if 0<y then x/y else (-x)/(-y)
theorem flo_pos (x:Int) {y:Int} (h:0<y):flo x y=x/y:=by unfold flo;rw [if_pos h]
theorem flo_same {x y:Int} (hy:y≠0) (h:decide (x<0)=decide (y<0)):flo x y=(x.natAbs:Int)/(y.natAbs:Int):=by
 unfold flo
 by_cases hx:x<0
 ·have hy2:y<0:=by simpa [hx] using h
  rw [if_neg (by omega),show ((x.natAbs:Int))=-x by omega,show ((y.natAbs:Int))=-y by omega]
 ·have hy2:¬y<0:=by simpa [hx] using h
  rw [if_pos (by omega),show ((x.natAbs:Int))=x by omega,show ((y.natAbs:Int))=y by omega]
theorem flo_diff {x y q r:Int} (hy:y≠0) (h:decide (x<0)≠decide (y<0)) (hq:(x.natAbs:Int)=q*(y.natAbs:Int)+r) (h0:0≤r) (h1:r<(y.natAbs:Int)) :
 flo x y=if r=0 then -q else -(q+1):=by
 have key:∀ X Y:Int,0<Y→-X=q*Y+r→0≤r→r<Y→X/Y=if r=0 then -q else -(q+1):=by
  intro X Y hY e h0 h1
  split
  ·rename_i hr
   refine div_uniq hY ?_ ?_ <;> rw [Int.neg_mul] <;> omega
  ·rename_i hr
   refine div_uniq hY ?_ ?_ <;> rw [Int.neg_mul,Int.add_mul,Int.one_mul] <;> omega
 unfold flo
 by_cases hx:x<0
 ·have hy2:¬y<0:=by intro hh;apply h;simp [hx,hh]
  rw [if_pos (by omega)]
  have e1:((x.natAbs:Int))=-x:=by omega
  have e2:((y.natAbs:Int))=y:=by omega
  rw [e1,e2] at hq
  rw [e2] at h1
  exact key x y (by omega) hq h0 h1
 ·have hy2:y<0:=by
   rcases Int.lt_or_le y 0 with hh|hh
   ·exact hh
   ·exfalso;apply h;simp [hx];omega
  rw [if_neg (by omega)]
  have e1:((x.natAbs:Int))=x:=by omega
  have e2:((y.natAbs:Int))=-y:=by omega
  rw [e1,e2] at hq
  rw [e2] at h1
  exact key (-x) (-y) (by omega) (by rw [Int.neg_neg];exact hq) h0 h1
theorem flo_zero {x y:Int} (hy:y≠0):(flo x y).natAbs≤x.natAbs:=by
 by_cases h:decide (x<0)=decide (y<0)
 ·rw [flo_same hy h]
  have:=Int.ediv_le_self (a:=(x.natAbs:Int)) (y.natAbs:Int) (by omega)
  have h2:=Int.ediv_nonneg (show (0:Int)≤x.natAbs by omega) (show (0:Int)≤y.natAbs by omega)
  omega
 ·have h3:=Int.mul_ediv_add_emod (x.natAbs:Int) (y.natAbs:Int)
  have h4:=Int.emod_nonneg (x.natAbs:Int) (show (y.natAbs:Int)≠0 by omega)
  have h5:=Int.emod_lt_of_pos (x.natAbs:Int) (show 0<(y.natAbs:Int) by omega)
  rw [Int.mul_comm] at h3
  rw [flo_diff hy h h3.symm h4 h5]
  have h6:=Int.ediv_nonneg (show (0:Int)≤x.natAbs by omega) (show (0:Int)≤y.natAbs by omega)
  have h7:=Int.mul_le_mul_of_nonneg_left (show (1:Int)≤y.natAbs by omega) h6
  split <;> omega
def dgi (l:List Int) (i:Int):Int:=if 0≤i then dgt l i.toNat else 0
theorem dgi_ok {l:List Int} (h:okd l) (i:Int):0≤dgi l i∧dgi l i≤32767:=by
 unfold dgi;split
 ·exact dgt_ok h _
 ·omega
theorem vd_top (l:List Int) (hl:okd l) (k:Nat) (hk:1≤k) (hlen:l.length≤k):∃ e,0≤e∧e<Bp (k-1)∧32768*vd l=(dgi l ((k:Int)-1)*32768+dgi l ((k:Int)-2))*Bp (k-1)+e:=by
 obtain ⟨j,rfl⟩:∃ j,k=j+1:=⟨k-1,by omega⟩
 have e1:dgi l (((j+1:Nat):Int)-1)=dgt l j:=by unfold dgi;rw [if_pos (by omega)];congr 1;omega
 have hv:vd l=vd (l.take j)+Bp j*dgt l j:=by rw [← vd_take_succ,List.take_of_length_le hlen]
 cases j with
 | zero =>
   have e2:dgi l (((0+1:Nat):Int)-2)=0:=by unfold dgi;rw [if_neg (by omega)]
   rw [e1,e2]
   refine ⟨0,by omega,by simp [Bp],?_⟩
   simp [Bp,vd] at hv ⊢
   omega
 | succ i =>
   have e2:dgi l (((i+1+1:Nat):Int)-2)=dgt l i:=by unfold dgi;rw [if_pos (by omega)];congr 1;omega
   rw [e1,e2]
   rw [vd_take_succ] at hv
   have ht:=vd_lt (okd_take hl i)
   have ht0:=vd_nonneg (okd_take hl i)
   have hb:Bp (l.take i).length≤Bp i:=Bp_mono (by simp;omega)
   refine ⟨32768*vd (l.take i),by omega,?_,?_⟩
   ·rw [Nat.add_sub_cancel,Bp];omega
   ·rw [hv,Nat.add_sub_cancel,Bp,Int.add_mul,Int.mul_add,Int.mul_add]
    have a1:32768*(Bp i*dgt l i)=dgt l i*(32768*Bp i):=by rw [Int.mul_comm (Bp i),Int.mul_left_comm]
    have a2:32768*(32768*Bp i*dgt l (i+1))=dgt l (i+1)*32768*(32768*Bp i):=by
     rw [Int.mul_comm (32768*Bp i) (dgt l (i+1)),← Int.mul_assoc,Int.mul_comm 32768 (dgt l (i+1))]
    omega
theorem tq1 {q Y T P e F f R:Int} (hq:0≤q) (h:q*(T+1)≤F) (hY:32768*Y=T*P+e) (he:e<P) (hR:32768*R=F*P+f) (hf:0≤f) (hP:1≤P):q*Y≤R:=by
 have h1:q*(32768*Y)≤q*((T+1)*P):=Int.mul_le_mul_of_nonneg_left (by rw [hY,Int.add_mul,Int.one_mul];omega) hq
 have h2:q*(T+1)*P≤F*P:=Int.mul_le_mul_of_nonneg_right h (by omega)
 rw [Int.mul_assoc] at h2
 rw [Int.mul_left_comm] at h1
 omega
theorem tq2 {q Y T P e F f R:Int} (hq:0≤q) (h:q*Y≤R) (hY:32768*Y=T*P+e) (he:0≤e) (hR:32768*R=F*P+f) (hf:f<P) (hP:1≤P):q*T≤F+1:=by
 rcases Int.lt_or_le (F+1) (q*T) with h3|h3
 ·exfalso
  have h1:q*(T*P)≤q*(32768*Y):=Int.mul_le_mul_of_nonneg_left (by omega) hq
  have h2:(F+1)*P≤q*T*P:=Int.mul_le_mul_of_nonneg_right (by omega) (by omega)
  rw [Int.mul_assoc,Int.add_mul,Int.one_mul] at h2
  rw [Int.mul_left_comm q 32768] at h1
  omega
 ·exact h3
theorem trial {b r:List Int} {k:Nat} (hb:Norm b) (hr:okd r) (hk:b.length=k) (hk1:1≤k) (hlr:r.length≤k+1) (hR:vd r<32768*vd b) {top first : Int}
 (htp:top=dgi b ((k:Int)-1)*32768+dgi b ((k:Int)-2)) (hfs:first = (dgi r k*32768+dgi r ((k:Int)-1))*32768+dgi r ((k:Int)-2)) :
 32768≤top∧first / (top+1)≤vd r/vd b∧vd r/vd b≤min 32767 ((first + 1)/top):=by
 obtain ⟨e,he0,he1,he⟩:=vd_top b hb.1 k hk1 (by omega)
 obtain ⟨f,hf0,hf1,hf⟩:∃ f,0≤f∧f<Bp (k-1)∧32768*vd r=first * Bp (k-1)+f:=by
  have hsp:=vd_take_succ r k
  rw [List.take_of_length_le hlr] at hsp
  have hlen:(r.take k).length≤k:=by simp;omega
  obtain ⟨f,h0,h1,h2⟩:=vd_top (r.take k) (okd_take hr k) k hk1 hlen
  refine ⟨f,h0,h1,?_⟩
  have d1:∀ i:Int,i<k→dgi (r.take k) i=dgi r i:=fun i hi=>by
   unfold dgi
   split
   ·unfold dgt;rw [List.getElem?_take,if_pos (by omega)]
   ·rfl
  rw [d1 _ (by omega),d1 _ (by omega)] at h2
  have e3:dgi r k=dgt r k:=by unfold dgi;rw [if_pos (by omega),Int.toNat_natCast]
  have hB:Bp k=32768*Bp (k-1):=by
   obtain ⟨j,rfl⟩:∃ j,k=j+1:=⟨k-1,by omega⟩
   exact Bp1s j
  rw [hsp,hB,hfs,e3]
  have a1:(dgt r k*32768+dgi r ((k:Int)-1))*32768+dgi r ((k:Int)-2)=dgt r k*1073741824+(dgi r ((k:Int)-1)*32768+dgi r ((k:Int)-2)):=by omega
  rw [a1]
  generalize dgi r ((k:Int)-1)*32768+dgi r ((k:Int)-2)=T at *
  rw [Int.add_mul,Int.mul_add,h2]
  have a2:32768*(32768*Bp (k-1)*dgt r k)=dgt r k*1073741824*Bp (k-1):=by
   rw [Int.mul_comm (32768*Bp (k-1)) (dgt r k),Int.mul_left_comm,Int.mul_assoc,← Int.mul_assoc 32768 32768]
   rfl
  omega
 have hP:=Bp_pos (k-1)
 have hbne:b≠[]:=by rintro rfl;simp at hk;omega
 have hY:1≤vd b:=by have:=norm_pos hb hbne;have:=Bp_pos (b.length-1);omega
 have hR0:=vd_nonneg hr
 have hk1':=dgi_ok hb.1 ((k:Int)-1)
 have hk2':=dgi_ok hb.1 ((k:Int)-2)
 have htop:32768≤top:=by
  have:dgi b ((k:Int)-1)≠0:=by
   obtain ⟨m,d,rfl⟩:=list_snoc b hbne
   have hd:=hb.2 d (by simp)
   have hkk:k=m.length+1:=by rw [← hk];simp
   unfold dgi
   rw [if_pos (by omega)]
   have:((k:Int)-1).toNat=m.length:=by omega
   rw [this]
   simpa [dgt] using hd
  omega
 have hF0:0≤first := by
  have h1:=dgi_ok hr k
  have h2:=dgi_ok hr ((k:Int)-1)
  have h3:=dgi_ok hr ((k:Int)-2)
  omega
 rw [← htp] at he
 clear htp hfs hk1' hk2'
 refine ⟨htop,?_,?_⟩
 ·refine Int.le_ediv_of_mul_le (by omega) ?_
  exact tq1 (Int.ediv_nonneg hF0 (by omega)) (Int.ediv_mul_le first (by omega)) he he1 hf hf0 hP
 ·have hq:=Int.ediv_mul_le (vd r) (show vd b≠0 by omega)
  have hq0:=Int.ediv_nonneg hR0 (show 0≤vd b by omega)
  have hlt:=Int.ediv_lt_of_lt_mul (show 0<vd b by omega) hR
  have h3:vd r/vd b≤(first + 1)/top:=Int.le_ediv_of_mul_le (by omega) (tq2 hq0 hq he he0 hf hf1 hP)
  omega
end Go.Proofs.YtjbelhpgbcnlmaaGreat
end
section
set_option linter.unusedVariables false
namespace Go.Proofs.YtjbelhpgbcnlmaaGreat
open Go.RowKit
theorem len_one:([1]:List Int).length=1:=rfl
theorem norm_one:Norm [1]:=⟨fun d hd=>by simp at hd;subst hd;omega,fun d hd=>by simp at hd;subst hd;omega⟩
set_option maxRecDepth 100000 in
set_option maxHeartbeats 2000000 in
theorem short_any (va vb:Value) (x y:Int) (w:World) {lo lo':Nat} (ha:BigN lo w va x) (hb:BigN lo' w vb y) (hy:y≠0) (hsa:(x.natAbs:Int)≤18446744073709551615) (hsb:(y.natAbs:Int)≤18446744073709551615) :
 Calls Tryz.prog 261 #[va,vb] w fun e w'=>∃ v,e=.returned v∧BigN w.heap.size w' v (flo x y)∧Below w.heap.size w w':=by
 obtain ⟨s,A,n,c,rfl,hs⟩:=ha.form
 obtain ⟨s',A',n',c',rfl,hs'⟩:=hb.form
 have HS:=Lib.hid hs
 have HS':=Lib.hid hs'
 clear hs hs'
 have hq:=Int.mul_ediv_add_emod (x.natAbs:Int) (y.natAbs:Int)
 have hr0:=Int.emod_nonneg (x.natAbs:Int) (show (y.natAbs:Int)≠0 by omega)
 have hr1:=Int.emod_lt_of_pos (x.natAbs:Int) (show 0<(y.natAbs:Int) by omega)
 have hq0:=Int.ediv_nonneg (show (0:Int)≤x.natAbs by omega) (show (0:Int)≤y.natAbs by omega)
 have hq1:=Int.ediv_le_self (a:=(x.natAbs:Int)) (y.natAbs:Int) (by omega)
 rw [Int.mul_comm] at hq
 have HQ:=Lib.hid hq
 have HY:=Lib.hid hy
 clear hq hy
 have hy1:(1:Int)≤y.natAbs:=by have:=HY.out;omega
 have hx0:(0:Int)≤x.natAbs:=by omega
 generalize hX:(x.natAbs:Int)=X at *
 generalize hY:(y.natAbs:Int)=Y at *
 have HX:=Lib.hid hX
 have HYY:=Lib.hid hY
 clear hX hY
 have hb0:Below w.heap.size w (((w.alloc (Obj.cells #[Value.bool s,Value.slice A n c] 166)).alloc (Obj.cells #[Value.bool s',Value.slice A' n' c'] 166)).alloc (Obj.cells #[Value.bool false,Value.slice none 0 0] 166)):=by go_grown
 have ha1:=ha.nx hb0
 have hb1:=hb.nx hb0
 have hz0:w.heap.size+1+1+1=(((w.alloc (Obj.cells #[Value.bool s,Value.slice A n c] 166)).alloc (Obj.cells #[Value.bool s',Value.slice A' n' c'] 166)).alloc (Obj.cells #[Value.bool false,Value.slice none 0 0] 166)).heap.size:=by simp
 have hK0:=((Bk.new w 166 #[.bool s,.slice A n c]).alloc (.cells #[Value.bool s',Value.slice A' n' c'] 166)).alloc (.cells #[Value.bool false,Value.slice none 0 0] 166)
 have hK1:=(Bk.new (w.alloc (.cells #[.bool s,.slice A n c] 166)) 166 #[Value.bool s',Value.slice A' n' c']).alloc (.cells #[Value.bool false,Value.slice none 0 0] 166)
 have hK2:=Bk.new ((w.alloc (.cells #[.bool s,.slice A n c] 166)).alloc (.cells #[Value.bool s',Value.slice A' n' c'] 166)) 166 #[Value.bool false,Value.slice none 0 0]
 simp only [World.size_alloc] at hK1 hK2
 go_enter Tryz.func261,Tryz.ntmps261
 have HZ0:=Lib.hid hz0
 clear hz0
 go_wp2_with fail
 refine (unsigned_any _ x _ ha1 (by rw [HX.out];omega)).mono ?_
 rintro e w1 ⟨rfl,hbx⟩
 rw [HX.out]
 have hb2:=hb1.nx hbx
 have hK0':=hK0.nx hbx
 have hK1':=hK1.nx hbx
 have hK2':=hK2.nx hbx
 obtain ⟨q10,q11⟩:=hK1'.cell2
 go_wp2_with fail
 refine (unsigned_any _ y _ hb2 (by rw [HYY.out];omega)).mono ?_
 rintro e w2 ⟨rfl,hby⟩
 rw [HYY.out]
 have hb01:=hb0.trans (hbx.mono (by rw [← HZ0.out];omega))
 have hK0'':=hK0'.nx hby
 have hK1'':=hK1'.nx hby
 have hK2'':=hK2'.nx hby
 go_wp2_with fail
 refine (uns_any (X/Y) _ hq0 (by omega)).mono ?_
 rintro e w3 ⟨v3,rfl,⟨A3,c3,l3,rfl,g2,g3,g4,g5,g6,g7⟩,hb3⟩
 have hL0:=hK0''.nx hb3
 have hL1:=hK1''.nx hb3
 have hL2:=hK2''.nx hb3
 obtain ⟨q00,q01⟩:=hL0.cell2
 obtain ⟨q10,q11⟩:=hL1.cell2
 have hl2:=hL2.lt
 have hz1:=hbx.size
 have hz2:=hby.size
 have hz3:=hb3.size
 have hbW:Below w.heap.size w w3:=(hb01.trans (hby.mono (by rw [← HZ0.out] at hz1;omega))).trans (hb3.mono (by rw [← HZ0.out] at hz1;omega))
 have g7':vd l3=X/Y:=by rw [g7];omega
 have G7:=Lib.hid g7'
 rw [← HZ0.out] at hz1
 clear g7 g7' hK0' hK0'' hK1' hK1'' hK2' hK2'' hb2 hb1 ha1 hb0 hbx hby hb01
 have hneg:decide (X/Y<0)=false:=by simp;omega
 rw [hneg]
 clear hneg
 have hnz:=norm_zero g6
 rw [G7.out] at hnz
 have HNZ:=Lib.hid hnz
 clear hnz
 by_cases hss:s=s'
 ·have HF:Hid (flo x y=X/Y):=by show _=_;rw [← HX.out,← HYY.out];exact flo_same HY.out (by rw [← HS.out,← HS'.out,hss])
  subst hss
  go_wp2_with (first
   | (go_at_call 256;(with_reducible refine (made_big _ _ _ _ _).mono ?_);rintro e w5 ⟨rfl,hb5⟩;have hK5:=hL2.nx hb5)
   | (refine stBig rfl _ _ rfl hK5 rfl rfl rfl ?_;intro w6 hK6 hg6 hs6))
  refine bodyPost_ret (res_big rfl hK6 rfl) rfl ?_
  have hz5:=hb5.size
  have hneg:decide (flo x y<0)=false:=by rw [HF.out];simp;omega
  refine ⟨_,rfl,⟨A3,c3,l3,by rw [hneg] <;> simp,g2,g3,g4,?_,g6,by rw [G7.out,HF.out];omega⟩,below_of_gb (hbW.trans (hb5.mono (by omega))) hg6 (by omega) (by omega)⟩
  exact ((g5.below hb5 (Nat.le_refl _)).grown hg6 (fun g e=>.inl (by injection e with e;omega))).less (by omega)
 ·have hsb:(s==s')=false:=by simpa using hss
  have hsx:decide (x<0)≠decide (y<0):=by rw [← HS.out,← HS'.out];exact hss
  have hfl:=flo_diff HY.out hsx (q:=X/Y) (r:=X%Y) (by rw [HX.out,HYY.out];exact HQ.out.symm) hr0 (by rw [HYY.out];exact hr1)
  have HF:=Lib.hid hfl
  clear hfl hsx hss
  by_cases hrz:X%Y=0
  ·have HRZ:=Lib.hid hrz
   have hrb:(X%Y==0)=true:=by simpa using hrz
   clear hrz
   go_wp2_with (first
    | (go_at_call 256;(with_reducible refine (made_big _ _ _ _ _).mono ?_);rintro e w5 ⟨rfl,hb5⟩;have hK5:=hL2.nx hb5)
    | (refine stBig rfl _ _ rfl hK5 rfl rfl rfl ?_;intro w6 hK6 hg6 hs6))
   refine bodyPost_ret (res_big rfl hK6 rfl) rfl ?_
   have hz5:=hb5.size
   have hf:=HF.out
   rw [if_pos HRZ.out] at hf
   have hneg:decide (0<l3.length)=decide (flo x y<0):=by
    rw [hf]
    by_cases hm:l3=[]
    ·have:=HNZ.out.1 hm;rw [hm];simp;omega
    ·have h1:=List.length_pos_iff.2 hm
     have h2:X/Y≠0:=fun e=>hm (HNZ.out.2 e)
     simp [h1] <;> omega
   refine ⟨_,rfl,⟨A3,c3,l3,by rw [← hneg] <;> simp,g2,g3,g4,?_,g6,by rw [G7.out,hf];omega⟩,below_of_gb (hbW.trans (hb5.mono (by omega))) hg6 (by omega) (by omega)⟩
   exact ((g5.below hb5 (Nat.le_refl _)).grown hg6 (fun g e=>.inl (by injection e with e;omega))).less (by omega)
  ·have HRZ:=Lib.hid hrz
   have hrb:(X%Y==0)=false:=by simpa using hrz
   clear hrz
   have hlen3:l3.length≤5:=norm_len g6 (by rw [G7.out];have:=Bp5
                                           omega)
   have ok3:=g6.1
   have ok1:=norm_one.1
   have hr3:RdI (w3.alloc (.cells #[.int .i64 1] 3)) (w3.alloc (.cells #[.int .i64 1] 3)).heap.size A3 l3:=(g5.rd.alloc (Nat.le_refl _) _).more (by simp)
   have hr4:RdI (w3.alloc (.cells #[.int .i64 1] 3)) (w3.alloc (.cells #[.int .i64 1] 3)).heap.size (some ⟨w3.heap.size,0,none⟩) [1]:=fun k hk=>by
    simp at hk
    subst hk
    exact ⟨w3.heap.size,0,rfl,by simp,by simp⟩
   go_wp2_with (first
    | (go_at_call 258;(with_reducible refine (sum_any l3 [1] _ _ _ 1 _ _ _ rfl len_one (by omega) (by omega) ok3 ok1 hr3 hr4).mono ?_);rintro e w4 ⟨v4,rfl,⟨A5,c5,l5,rfl,k2,k3,k4,k5,k6,k7⟩,hb4⟩;have hK4:=(hL2.alloc (.cells #[.int .i64 1] 3)).nx hb4)
    | (go_at_call 256;(with_reducible refine (made_big _ _ _ _ _).mono ?_);rintro e w5 ⟨rfl,hb5⟩;have hK5:=hK4.nx hb5)
    | (refine stBig rfl _ _ rfl hK5 rfl rfl rfl ?_;intro w6 hK6 hg6 hs6))
   refine bodyPost_ret (res_big rfl hK6 rfl) rfl ?_
   have hz4:=hb4.size
   simp only [World.size_alloc] at hz4
   have hz5:=hb5.size
   have hf:=HF.out
   rw [if_neg HRZ.out] at hf
   have hv5:vd l5=X/Y+1:=by rw [k7,G7.out];simp [vd]
   have hpos:0<l5.length:=by
    rcases Nat.eq_zero_or_pos l5.length with e|e
    ·have:=(norm_zero k6).1 (List.eq_nil_of_length_eq_zero e);omega
    ·exact e
   have hneg:decide (flo x y<0)=true:=by rw [hf];simp;omega
   refine ⟨_,rfl,⟨A5,c5,l5,by rw [hneg] <;> simp [hpos],k2,k3,k4,?_,k6,by rw [hv5,hf];omega⟩,below_of_gb (((hbW.alloc (by omega) _).trans (hb4.mono (by simp;omega))).trans (hb5.mono (by omega))) hg6 (by omega) (by omega)⟩
   exact ((k5.below hb5 (Nat.le_refl _)).grown hg6 (fun g e=>.inl (by injection e with e;simp;omega))).less (by simp;omega)
end Go.Proofs.YtjbelhpgbcnlmaaGreat
end
section
set_option linter.unusedVariables false
namespace Go.Proofs.YtjbelhpgbcnlmaaGreat
open Go.RowKit
def TwoW (w wr:World) (s s':Bool) (A A':Option Addr) (n n' c c':Nat):Prop :=
 Bk wr w.heap.size 166 #[.bool s,.slice A n c]∧Bk wr (w.heap.size+1) 166 #[.bool s',.slice A' n' c']∧Bk wr (w.heap.size+1+1) 166 #[.bool false,.slice none 0 0]∧Below w.heap.size w wr
section
variable {w wr wr':World} {s s':Bool} {A A':Option Addr} {n n' c c':Nat}
theorem TwoW.nx (h:TwoW w wr s s' A A' n n' c c') (hb:Below wr.heap.size wr wr'):TwoW w wr' s s' A A' n n' c c' :=
 ⟨h.1.nx hb,h.2.1.nx hb,h.2.2.1.nx hb,h.2.2.2.trans (hb.mono (by have:=h.2.2.1.lt;omega))⟩
theorem TwoW.drew (h:TwoW w wr s s' A A' n n' c c'):TwoW w wr.drew s s' A A' n n' c c':=⟨h.1.drew,h.2.1.drew,h.2.2.1.drew,h.2.2.2.drew⟩
theorem TwoW.drewN (h:TwoW w wr s s' A A' n n' c c') (k:Nat):TwoW w (wr.drewN k) s s' A A' n n' c c':=⟨h.1.drewN k,h.2.1.drewN k,h.2.2.1.drewN k,below_drewN h.2.2.2 k⟩
theorem TwoW.alloc (h:TwoW w wr s s' A A' n n' c c') (o:Obj):TwoW w (wr.alloc o) s s' A A' n n' c c':=h.nx ((Below.refl _ _).alloc (Nat.le_refl _) o)
theorem TwoW.start (w:World) (s s':Bool) (A A':Option Addr) (n n' c c':Nat) :
 TwoW w (((w.alloc (.cells #[.bool s,.slice A n c] 166)).alloc (.cells #[.bool s',.slice A' n' c'] 166)).alloc (.cells #[.bool false,.slice none 0 0] 166)) s s' A A' n n' c c':=by
 refine ⟨((Bk.new w _ _).alloc _).alloc _,?_,?_,by go_grown⟩
 ·simpa using (Bk.new (w.alloc (.cells #[.bool s,.slice A n c] 166)) 166 #[.bool s',.slice A' n' c']).alloc _
 ·simpa using Bk.new ((w.alloc (.cells #[.bool s,.slice A n c] 166)).alloc (.cells #[.bool s',.slice A' n' c'] 166)) 166 #[.bool false,.slice none 0 0]
end
set_option maxRecDepth 100000 in
set_option maxHeartbeats 1000000 in
theorem floor_short (va vb:Value) (x y:Int) (w:World) {lo lo':Nat} (ha:BigN lo w va x) (hb:BigN lo' w vb y) (hy:y≠0) (hsa:(x.natAbs:Int)<Bp 4) (hsb:(y.natAbs:Int)<Bp 4) :
 Calls Tryz.prog 194 #[va,vb] w fun e w'=>∃ v,e=.returned v∧BigN w.heap.size w' v (flo x y)∧Below w.heap.size w w':=by
 have hB:=Bp4
 rw [hB] at hsa hsb
 obtain ⟨A,c,l,rfl,h2,h3,h4,h5,h6,h7⟩:=id ha
 obtain ⟨A',c',l',rfl,h2',h3',h4',h5',h6',h7'⟩:=id hb
 have hl:l.length≤4:=norm_len h6 (by rw [h7,hB];exact hsa)
 have hl':l'.length≤4:=norm_len h6' (by rw [h7',hB];exact hsb)
 clear h2 h3 h4 h5 h6 h7 h2' h3' h4' h5' h6' h7' hB
 generalize l.length=n at *
 generalize l'.length=n' at *
 have hy0:Hid (y≠0):=hy
 have hxa:(x.natAbs:Int)≤18446744073709551615:=by omega
 have hya:(y.natAbs:Int)≤18446744073709551615:=by omega
 have HXA:=Lib.hid hxa
 have HYA:=Lib.hid hya
 clear hy hsa hsb hxa hya
 have hT:=TwoW.start w (decide (x<0)) (decide (y<0)) A A' n n' c c'
 generalize decide (x<0)=s at *
 generalize decide (y<0)=s' at *
 have ha1:=ha.nx hT.2.2.2
 have hb1:=hb.nx hT.2.2.2
 have hl2:=hT.2.2.1.lt
 go_enter Tryz.func194,Tryz.ntmps194
 go_wp2_with (first
  | (go_at_call 261;(with_reducible refine (short_any _ _ x y _ ha1 hb1 hy0.out HXA.out HYA.out).mono ?_);rintro e w1 ⟨v1,rfl,hN1,hb2⟩;obtain ⟨s1,A1,n1,c1,rfl⟩:=hN1.shape;have hT1:=hT.nx hb2)
  | (refine stBig rfl _ _ rfl hT1.2.2.1 rfl rfl rfl ?_;intro w6 hK6 hg6 hs6))
 refine bodyPost_ret (res_big rfl hK6 rfl) rfl ?_
 have hz:=hb2.size
 exact ⟨_,rfl,(hN1.grown hg6 (.inl (by omega))).less (by omega),below_of_gb hT1.2.2.2 hg6 (by omega) (by omega)⟩
end Go.Proofs.YtjbelhpgbcnlmaaGreat
end
section
set_option linter.unusedVariables false
namespace Go.Proofs.YtjbelhpgbcnlmaaGreat
open Go.RowKit
theorem digit_q (l:List Int) (A:Option Addr) (n c:Nat) (i:Int) (w:World) {B:Nat} (hn:l.length=n) (hn2:n≤1000000) (h:RdI w B A l) :
 Calls Tryz.prog 262 #[.slice A n c,.int .i64 i] w fun e w'=>e=.returned (.int .i64 (dgi l i))∧w'=w :=
 (digit_any l A n c i w hn hn2 h).mono fun e w' ⟨h1,h2⟩=>⟨h1,h2.symm⟩
theorem digit_d (l:List Int) (A:Option Addr) (n c:Nat) (i:Int) (w:World) {B:Nat} (hn:l.length=n) (hn2:n≤1000000) (h:RdI w B A l) :
 Calls Tryz.prog 262 #[.slice A n c,.int .i64 i] w fun e w'=>e=.returned (.int .i64 (dgi l i))∧w=w':=digit_any l A n c i w hn hn2 h
def FlO (a b q r:List Int) (j:Nat):Prop :=
 okd q∧q.length=a.length-j∧Norm r∧vd r<vd b∧vd (a.drop j)=vd q*vd b+vd r
theorem flO_start (a b:List Int) (hb:1≤vd b):FlO a b [] [] a.length:=⟨okd_nil,by simp,norm_nil,by simp [vd];omega,by simp [vd]⟩
theorem flO_step {a b q r r':List Int} {j:Nat} {Q:Int} (h:FlO a b q r (j+1)) (ha:okd a) (hj:j<a.length) (hb:1≤vd b) (hQ:Q=vd (dgt a j::r)/vd b) (hr':Norm r') (hv:vd r'=vd (dgt a j::r)-Q*vd b) :
 FlO a b (Q::q) r' j∧0≤Q∧Q≤32767:=by
 obtain ⟨h1,h2,h3,h4,h5⟩:=h
 have hd:=dgt_ok ha j
 have hr0:=vd_nonneg h3.1
 have hR:vd (dgt a j::r)=dgt a j+32768*vd r:=rfl
 have hq0:0≤Q:=by rw [hQ];exact Int.ediv_nonneg (by rw [hR];omega) (by omega)
 have hq1:Q≤32767:=by
  have:Q<32768:=by rw [hQ];exact Int.ediv_lt_of_lt_mul (by omega) (by rw [hR];omega)
  omega
 have hm:=Int.mul_ediv_add_emod (vd (dgt a j::r)) (vd b)
 have hm1:=Int.emod_lt_of_pos (vd (dgt a j::r)) (show 0<vd b by omega)
 rw [← hQ,Int.mul_comm] at hm
 refine ⟨⟨okd_cons.2 ⟨⟨hq0,hq1⟩,h1⟩,by simp;omega,hr',by omega,?_⟩,hq0,hq1⟩
 rw [vd_drop,h5,vd,Int.add_mul,hv,hR,Int.mul_add,Int.mul_assoc]
 omega
theorem norm_cons_tr {d:Int} {r:List Int} (hd:0≤d∧d≤32767) (hr:Norm r):Norm (tr (d::r))∧vd (tr (d::r))=vd (d::r)∧okd (d::r) :=
 ⟨tr_norm (okd_cons.2 ⟨hd,hr.1⟩),tr_vd _,okd_cons.2 ⟨hd,hr.1⟩⟩
theorem flO_end {l l' q r:List Int} {x y:Int} (h:FlO l l' q r 0) (hy:y≠0) (h7:vd l=(x.natAbs:Int)) (h7':vd l'=(y.natAbs:Int)) :
 (decide (x<0)=decide (y<0)→flo x y=vd q)∧(decide (x<0)≠decide (y<0)→flo x y=if vd r=0 then-vd q else -(vd q+1)):=by
 obtain ⟨h1,h2,h3,h4,h5⟩:=h
 have h0:=vd_nonneg h3.1
 rw [List.drop_zero] at h5
 rw [h7'] at h4 h5
 constructor
 ·intro e
  rw [flo_same hy e]
  exact div_uniq (by omega) (by omega) (by omega)
 ·intro e
  exact flo_diff hy e (by omega) h0 h4
theorem sm_mul {m v:Int} (h0:0≤m) (h1:m≤32768) (h2:0≤v) (h3:v<Bp 38):Sm (m*v):=by
 show ((m*v).natAbs:Int)<Bp 40
 have h4:m*v≤32768*v:=Int.mul_le_mul_of_nonneg_right h1 h2
 have h5:=Int.mul_nonneg h0 h2
 have h6:=Bp1s 38
 have h7:=Bp_mono (show 39≤40 by omega)
 simp only [Nat.reduceAdd] at h6
 omega
def slA:Value→Option Addr|.slice A _ _=>A|_=>none
set_option maxRecDepth 100000 in
set_option maxHeartbeats 4000000 in
theorem floor_long (va vb:Value) (x y:Int) (w:World) {lo lo':Nat} (ha:BigN lo w va x) (hb:BigN lo' w vb y) (hy:y≠0) (hsa:Sm x) (hsb:(y.natAbs:Int)<Bp 38) (hlong:Bp 4≤(x.natAbs:Int)∨Bp 4≤(y.natAbs:Int)) :
 Calls Tryz.prog 194 #[va,vb] w fun e w'=>∃ v,e=.returned v∧BigN w.heap.size w' v (flo x y)∧Below w.heap.size w w':=by
 obtain ⟨A,c,l,rfl,h2,h3,h4,h5,h6,h7⟩:=id ha
 obtain ⟨A',c',l',rfl,h2',h3',h4',h5',h6',h7'⟩:=id hb
 have hbY:∀ W,Below w.heap.size w W→BigN lo' W (.agg #[.bool false,.slice A' l'.length c']) (vd l'):=fun W hW=>by
  have hnn:=vd_nonneg h6'.1
  exact ⟨A',c',l',by rw [show decide (vd l'<0)=false by simp;omega],h2',h3',h4',h5'.below hW (Nat.le_refl _),h6',by omega⟩
 have HBY:=Lib.hid hbY
 clear hbY
 have hl:l.length≤40:=sm_len hsa h6 h7
 have hl':l'.length≤38:=norm_len h6' (by rw [h7'];exact hsb)
 have hlong2:¬(l.length≤4∧l'.length≤4):=by
  rintro ⟨e1,e2⟩
  have v1:=vd_lt h6.1
  have v2:=vd_lt h6'.1
  have b1:=Bp_mono e1
  have b2:=Bp_mono e2
  omega
 have hY1:1≤vd l':=by rw [h7'];omega
 have hk1:1≤l'.length:=by
  rcases Nat.eq_zero_or_pos l'.length with e|e
  ·rw [List.eq_nil_of_length_eq_zero e] at hY1;simp [vd] at hY1
  ·exact e
 have ok1:=h6.1
 have ok2:=h6'.1
 have hd1:=dgi_ok ok2 ((l'.length:Int)-1)
 have hd2:=dgi_ok ok2 ((l'.length:Int)-2)
 have HY:=Lib.hid hy
 have H7:=Lib.hid h7
 have H7':=Lib.hid h7'
 have HSB:=Lib.hid hsb
 clear hy h7 h7' hsb hlong h2 h3 h4 h2' h3' h4'
 have hT:=TwoW.start w (decide (x<0)) (decide (y<0)) A A' l.length l'.length c c'
 generalize hsx:decide (x<0)=s at *
 generalize hsy:decide (y<0)=s' at *
 have HSX:=Lib.hid hsx
 have HSY:=Lib.hid hsy
 clear hsx hsy
 have hl2:=hT.2.2.1.lt
 have hr1:∀ W,Below w.heap.size w W→RdI W W.heap.size A l:=fun W hW=>(h5.below hW (Nat.le_refl _)).rd
 have hr2:∀ W,Below w.heap.size w W→RdI W W.heap.size A' l':=fun W hW=>(h5'.below hW (Nat.le_refl _)).rd
 have HR1:=Lib.hid hr1
 have HR2:=Lib.hid hr2
 have hrq:=hr2 _ hT.2.2.2
 clear hr1 hr2 h5 h5'
 go_enter Tryz.func194,Tryz.ntmps194
 have hcs:(l.length≤4∧4<l'.length)∨4<l.length:=by omega
 clear hlong2
 generalize hW0:((w.alloc (.cells #[.bool s,.slice A l.length c] 166)).alloc (.cells #[.bool s',.slice A' l'.length c'] 166)).alloc (.cells #[.bool false,.slice none 0 0] 166)=W0 at *
 have HW0:=Lib.hid hW0
 clear hW0
 obtain ⟨q00,q01⟩:=hT.1.cell2
 obtain ⟨q10,q11⟩:=hT.2.1.cell2
 go_upto_region 1 with fail
 rw [HW0.out]
 go_cut [23] (fun v wx=>v=.bool false∧wx=W0)
 case first =>
  rcases hcs with ⟨hl4,hl5⟩|hl4
  ·go_wp2_with fail
   go_meet
   exact ⟨by simp;omega,rfl⟩
  ·go_wp2_with fail
   go_meet
   exact ⟨rfl,rfl⟩
 case rest =>
  obtain ⟨rfl,rfl⟩:=hcut
  clear q00 q01 q10 q11
  have hT20:=hT.2.1.cell2
  have q11:=hT20.2
  clear hT20
  go_wp2_with fail
  go_quiet ((go_at_call 262;exact Calls.quiet_of_same (digit_q l' _ _ _ _ _ rfl (by omega) (hrq.drewN _))))
  generalize htop:dgi l' ((l'.length:Int)-1)*32768+dgi l' ((l'.length:Int)-2)=top at *
  have HTOP:=Lib.hid htop
  clear htop hd1 hd2 hrq
  have hT2:=hT.drewN nq
  obtain ⟨q00,q01⟩:=hT2.1.cell2
  go_wp2_with fail
  go_loopw [5,6,9] (fun qv rv iv wr=>∃ (j:Nat) (q r:List Int) (Aq:Option Addr) (cq:Nat) (Ar:Option Addr) (cr:Nat),j≤l.length∧iv=.int .i64 ((j:Int)-1)∧qv=.slice Aq q.length cq∧rv=.slice Ar r.length cr ∧
   q.length≤cq∧cq≤maxLen∧(Aq=none→cq=0)∧RdL wr (w.heap.size+1+1+1) Aq (q.map (Value.int .i64))∧r.length≤cr∧cr≤maxLen∧(Ar=none→cr=0)∧RdI wr wr.heap.size Ar r∧FlO l l' q r j∧TwoW w wr s s' A A' l.length l'.length c c')
   (fun _ _ iv _=>(intOf iv+1).toNat)
  case atStart=>exact ⟨l.length,[],[],none,0,none,0,Nat.le_refl _,rfl,rfl,rfl,by simp,by simp [maxLen],fun _=>rfl,fun k hk=>absurd hk (by simp),by simp,by simp [maxLen],fun _=>rfl,Rd.nil,flO_start l l' hY1,hT2⟩
  case round =>
   clear hT2 q00 q01 hT hl2
   obtain ⟨j,q,r,Aq,cq,Ar,cr,hj,rfl,rfl,rfl,hq1,hq2,hq3,hq4,hr1,hr2,hr3,hr4,hF,hT⟩:=hrel
   have hl2:=hT.2.2.1.lt
   rcases Nat.eq_zero_or_pos j with h0|h0
   ·subst h0
    have hend:=flO_end hF HY.out H7.out H7'.out
    rw [HSX.out,HSY.out] at hend
    have HEND:=Lib.hid hend
    have hqlen:q.length≤l.length:=by have:=hF.2.1;omega
    have hvq0:=vd_nonneg hF.1
    have hnt:=tr_norm hF.1
    have hnr:=hF.2.2.1
    have hzr:=norm_zero hnr
    have HZR:=Lib.hid hzr
    have HNT:=Lib.hid (norm_zero hnt)
    have HVT:=Lib.hid (tr_vd q)
    have hTd:=hT.drew
    have hl2:=hT.2.2.1.lt
    have hl3:=hTd.2.2.1.lt
    obtain ⟨q00,q01⟩:=hT.1.cell2
    obtain ⟨q10,q11⟩:=hT.2.1.cell2
    obtain ⟨d00,d01⟩:=hTd.1.cell2
    obtain ⟨d10,d11⟩:=hTd.2.1.cell2
    have hrq:RdI wr wr.heap.size Aq q:=RdL.rd hq4
    have hrqd:RdI wr.drew wr.drew.heap.size Aq q:=hrq
    have hqd4:RdL wr.drew (w.heap.size+1+1+1) Aq (q.map (Value.int .i64)):=hq4
    have hcs2:s=s'∨(s'=!s∧r=[])∨(s'=!s∧0<r.length):=by
     rcases Nat.eq_zero_or_pos r.length with e|e
     ·have e:=List.eq_nil_of_length_eq_zero e
      cases s <;> cases s' <;> simp [e]
     ·cases s <;> cases s' <;> simp [e]
    clear hend hF hzr
    rcases hcs2 with rfl|⟨rfl,rfl⟩|⟨rfl,hr0⟩
    ·go_wp2_with fail
     go_region_held3 (fun w'=>w'.cell? ⟨w.heap.size,0,none⟩=some (.bool s)∧w'.cell? ⟨w.heap.size+1,0,none⟩=some (.bool s))
      (first | exact ⟨q00,q10⟩|exact ⟨d00,d10⟩|exact ⟨e00,e10⟩|(refine ⟨?_,?_⟩ <;> go_simp))
      (first
      | (go_at_call 257;(with_reducible refine (trim_any q _ _ _ _ (B:=wr.drew.heap.size) rfl (by omega) (by omega) (by simpa [maxLen] using hq2) hq3 hrqd).mono ?_);rintro e w1 ⟨rfl,rfl⟩)
      | (go_at_call 256;refine (made_big _ _ _ _ _).mono ?_;rintro e w2 ⟨rfl,hb2⟩;have hK22:=hTd.2.2.1.nx hb2;obtain ⟨c20,c21⟩:=hK22.cell2;have f20:=hK22.frozen 0;have f21:=hK22.frozen 1;have e00:=(hTd.1.nx hb2).cell2.1;have e10:=(hTd.2.1.nx hb2).cell2.1))
     go_wp2_with fail
     refine bodyPost_ret (res_big rfl (hK22.set2 _ _) rfl) rfl ?_
     have hz2:=hb2.size
     simp only [World.size_drew] at hz2 hl3
     have hbW:Below w.heap.size w w2:=hTd.2.2.2.trans (hb2.mono (by simp;omega))
     have hle:=tr_le q
     have hn:=HNT.out
     rw [HVT.out] at hn
     have hfl:flo x y=vd q:=HEND.out.1 (by first | trivial|rfl)
     refine ⟨_,rfl,⟨Aq,cq,tr q,by rw [show decide (flo x y<0)=false by simp;omega] <;> simp,by omega,hq2,hq3,?_,hnt,by rw [HVT.out];omega⟩,below_of_gb hbW (gb2 w2 _ _ _) (by omega) (by omega)⟩
     rw [tr_take,List.map_take]
     exact (((hqd4.take _).below hb2 (Nat.le_refl _)).grown (gb2 w2 _ _ _) (fun g e=>.inl (by injection e with e;omega))).less (by omega)
    ·go_wp2_with fail
     go_region_held3 (fun w'=>w'.cell? ⟨w.heap.size,0,none⟩=some (.bool s)∧w'.cell? ⟨w.heap.size+1,0,none⟩=some (.bool (!s)))
      (first | exact ⟨q00,q10⟩|exact ⟨d00,d10⟩|exact ⟨e00,e10⟩|(refine ⟨?_,?_⟩ <;> go_simp))
      (first
      | (go_at_call 257;(with_reducible refine (trim_any q _ _ _ _ (B:=wr.drew.heap.size) rfl (by omega) (by omega) (by simpa [maxLen] using hq2) hq3 hrqd).mono ?_);rintro e w1 ⟨rfl,rfl⟩)
      | (go_at_call 256;refine (made_big _ _ _ _ _).mono ?_;rintro e w2 ⟨rfl,hb2⟩;have hK22:=hTd.2.2.1.nx hb2;obtain ⟨c20,c21⟩:=hK22.cell2;have f20:=hK22.frozen 0;have f21:=hK22.frozen 1;have e00:=(hTd.1.nx hb2).cell2.1;have e10:=(hTd.2.1.nx hb2).cell2.1))
     go_wp2_with fail
     refine bodyPost_ret (res_big rfl (hK22.set2 _ _) rfl) rfl ?_
     have hz2:=hb2.size
     simp only [World.size_drew] at hz2 hl3
     have hbW:Below w.heap.size w w2:=hTd.2.2.2.trans (hb2.mono (by simp;omega))
     have hle:=tr_le q
     have hn:=HNT.out
     rw [HVT.out] at hn
     have hfl:flo x y=-vd q:=by
      have:=HEND.out.2 (by cases s <;> simp)
      simpa [vd] using this
     refine ⟨_,rfl,⟨Aq,cq,tr q,?_,by omega,hq2,hq3,?_,hnt,by rw [HVT.out];omega⟩,below_of_gb hbW (gb2 w2 _ _ _) (by omega) (by omega)⟩
     ·have:(!(s==!s)&&decide (0<(tr q).length))=decide (flo x y<0):=by
       rw [hfl]
       by_cases hm:tr q=[]
       ·have h0:=hn.1 hm
        rw [hm];simp;omega
       ·have h1:=List.length_pos_iff.2 hm
        have h2:vd q≠0:=fun e=>hm (hn.2 e)
        simp [h1];omega
      rw [← this];simp
     ·rw [tr_take,List.map_take]
      exact (((hqd4.take _).below hb2 (Nat.le_refl _)).grown (gb2 w2 _ _ _) (fun g e=>.inl (by injection e with e;omega))).less (by omega)
    ·go_wp2_with fail
     refine (trim_any q Aq q.length cq wr (B:=wr.heap.size) rfl (by omega) (by omega) (by simpa [maxLen] using hq2) hq3 hrq).mono ?_
     rintro e w1 ⟨rfl,rfl⟩
     have hle:=tr_le q
     have hrt:RdI (wr.alloc (.cells #[.int .i64 1] 3)) (wr.alloc (.cells #[.int .i64 1] 3)).heap.size Aq (tr q):=by
      rw [tr_take,RdI,List.map_take]
      exact RdL.rd ((RdL.take hq4 _).below ((Below.refl _ wr).alloc (Nat.le_refl _) _) (Nat.le_refl _))
     have hr1':RdI (wr.alloc (.cells #[.int .i64 1] 3)) (wr.alloc (.cells #[.int .i64 1] 3)).heap.size (some ⟨wr.heap.size,0,none⟩) [1]:=by
      have:=own_of_Bk (base:=wr.heap.size) (Bk.new wr 3 #[.int .i64 1]) 1 rfl (by omega) (Nat.le_refl _)
      exact Rd.of_own (c:=1) (n:=1) (size:=1) (by simpa using this)
     go_wp2_with fail
     refine (sum_any (tr q) [1] Aq _ _ 1 _ _ _ rfl rfl (by omega) (by omega) hnt.1 (okd_cons.2 ⟨by omega,okd_nil⟩) hrt hr1').mono ?_
     rintro e w5 ⟨v5,rfl,⟨A5,c5,l5,rfl,x2,x3,x4,x5,x6,x7⟩,hb5⟩
     have X7:=Lib.hid x7
     clear x7
     go_wp2_with fail
     refine (made_big _ _ _ _ _).mono ?_
     rintro e w6 ⟨rfl,hb6⟩
     have hT6:=((hT.alloc (.cells #[.int .i64 1] 3)).nx hb5).nx hb6
     have hK6:=hT6.2.2.1
     obtain ⟨c20,c21⟩:=hK6.cell2
     have f20:=hK6.frozen 0
     have f21:=hK6.frozen 1
     go_wp2_with fail
     refine bodyPost_ret (res_big rfl (hK6.set2 _ _) rfl) rfl ?_
     have hz5:=hb5.size
     have hz6:=hb6.size
     have hs5:wr.heap.size≤(wr.alloc (.cells #[.int .i64 1] 3)).heap.size:=by simp
     have hv5:vd l5=vd q+1:=by rw [X7.out,HVT.out];simp [vd]
     have hfl:flo x y=-(vd q+1):=by
      have:=HEND.out.2 (by cases s <;> simp)
      have hvr:¬vd r=0:=fun e=>by rw [HZR.out.2 e] at hr0;simp at hr0
      rw [this,if_neg hvr]
     have h1:0<l5.length:=by
      rcases Nat.eq_zero_or_pos l5.length with e|e
      ·rw [List.eq_nil_of_length_eq_zero e] at hv5;simp [vd] at hv5;omega
      ·exact e
     refine ⟨_,rfl,⟨A5,c5,l5,?_,x2,x3,x4,?_,x6,by omega⟩,below_of_gb hT6.2.2.2 (gb2 w6 _ _ _) (by omega) (by omega)⟩
     ·rw [show decide (flo x y<0)=true by simp;omega];simp [h1]
     ·exact ((x5.below hb6 (by omega)).grown (gb2 w6 _ _ _) (fun g e=>.inl (by injection e with e;omega))).less (by omega)
   ·obtain ⟨jj,rfl⟩:∃ jj,j=jj+1:=⟨j-1,by omega⟩
    have e1:((jj+1:Nat):Int)-1=jj:=by omega
    simp only [e1]
    clear e1
    obtain ⟨b1,o1,rfl,hb1,hc1⟩:=RdI.get (HR1.out _ hT.2.2.2) jj (by omega)
    rw [getD_dgt] at hc1
    have hdj:=dgt_ok ok1 jj
    obtain ⟨q00,q01⟩:=hT.1.cell2
    have hrlen:r.length≤38:=norm_len hF.2.2.1 (by have:=hF.2.2.2.1;have:=vd_lt ok2;have:=Bp_mono hl';omega)
    have hown0:(wr.alloc (.cells #[.int .i64 (dgt l jj)] 3)).ownsRow wr.heap.size 3 1 (.slice (some ⟨wr.heap.size,0,none⟩) 1 1) 1 [.int .i64 (dgt l jj)]:=by
     simpa using own_of_Bk (base:=wr.heap.size) (Bk.new wr 3 #[.int .i64 (dgt l jj)]) 1 rfl (by omega) (Nat.le_refl _)
    go_wp2_with (at_builtin;refine appR rfl _ _ _ rfl Tryz.underlying120 big_int_info rfl (by omega) rfl rfl hown0 ((Below.refl _ wr).alloc (Nat.le_refl _) _) (Nat.le_refl _) (by simp) (hr4.alloc (Nat.le_refl _) _) (by simp) (intsL r) (by omega) (by omega) ?_;intro v1 w1 hown1 hb1' _ _ _)
    obtain ⟨A1,c1,rfl,k1,k2,k3,k4,k5⟩:=own_form2 hown1
    have hT1:=hT.nx hb1'
    have hrq1:RdL w1 (w.heap.size+1+1+1) Aq (q.map (Value.int .i64)):=hq4.below hb1' (Nat.le_refl _)
    have hL:([Value.int .i64 (dgt l jj)]++r.map (Value.int .i64))=(dgt l jj::r).map (Value.int .i64):=by simp
    rw [hL] at k4
    obtain ⟨hn1,hv1,hok1⟩:=norm_cons_tr hdj hF.2.2.1
    have HV1:=Lib.hid hv1
    clear hv1 hL hown1 hown0 q00 q01 hq4 hr4
    go_wp2_with fail
    refine (trim_any (dgt l jj::r) A1 (1+r.length) c1 w1 (by simp;omega) (by omega) k1 (by simpa [maxLen] using k2) k3 k4).mono ?_
    rintro e w2 ⟨rfl,rfl⟩
    have hrr:RdI w1 w1.heap.size A1 (tr (dgt l jj::r)):=by rw [tr_take,RdI,List.map_take];exact k4.take _
    have hle1:(tr (dgt l jj::r)).length≤1+r.length:=by have:=tr_le (dgt l jj::r);simpa [Nat.add_comm] using this
    generalize hr1d:tr (dgt l jj::r)=r1 at *
    have HR1D:=Lib.hid hr1d
    clear hr1d k4 k5 hok1
    have ok3:=hn1.1
    have hm1:=dgi_ok ok3 (l'.length:Int)
    have hm2:=dgi_ok ok3 ((l'.length:Int)-1)
    have hm3:=dgi_ok ok3 ((l'.length:Int)-2)
    have hRlt:vd r1<32768*vd l':=by rw [HV1.out,vd];have:=hF.2.2.2.1;omega
    have hlr:r1.length≤l'.length+1:=norm_len hn1 (by have:=vd_lt ok2;rw [Bp1s];omega)
    have htr:=trial h6' ok3 rfl hk1 hlr hRlt HTOP.out.symm rfl
    have HTR:=Lib.hid htr
    have htop0:=htr.1
    have htop1:top≤1073741823:=by
     have:=HTOP.out
     have:=dgi_ok ok2 ((l'.length:Int)-1)
     have:=dgi_ok ok2 ((l'.length:Int)-2)
     omega
    clear htr
    go_wp2_with (go_at_call 262;(with_reducible refine (digit_d r1 _ _ _ _ _ rfl (by omega) hrr).mono ?_);rintro e w' ⟨rfl,rfl⟩)
    generalize hfd:(dgi r1 (l'.length:Int)*32768+dgi r1 ((l'.length:Int)-1))*32768+dgi r1 ((l'.length:Int)-2)=first at *
    have hf0:0≤first ∧ first ≤ 35184372088831:=by omega
    have HFD:=Lib.hid hfd
    clear hfd hm1 hm2 hm3
    have hQ0:0≤vd r1/vd l':=Int.ediv_nonneg (vd_nonneg ok3) (by omega)
    generalize hQd:vd r1/vd l'=Q at *
    have HQD:=Lib.hid hQd
    clear hQd
    have hA0:0≤first / (top+1):=Int.ediv_nonneg hf0.1 (by omega)
    have hA1:first / (top+1)≤35184372088831:=by have:=Int.ediv_le_self (a:=first) (top+1) hf0.1;omega
    have hA2:0≤(first + 1)/top:=Int.ediv_nonneg (by omega) (by omega)
    have hA3:(first + 1)/top≤35184372088832:=by have:=Int.ediv_le_self (a:=first + 1) top (by omega);omega
    have hT1':=hT1.2.2.1.lt
    go_upto_region 12 with fail
    go_cut [11,12] (fun a b wx=>a=.int .i64 (first / (top+1))∧(∃ hi,b=.int .i64 hi∧Q≤hi∧hi≤32767)∧∃ k,wx=w1.drewN k)
    case first =>
     go_quiet (fail)
     all_goals (go_wp2_with fail)
     all_goals go_meet
     all_goals exact ⟨rfl,⟨_,rfl,by have:=HTR.out;omega,by omega⟩,_,rfl⟩
    case rest =>
     obtain ⟨rfl,⟨hi,rfl,hhi1,hhi2⟩,k,rfl⟩:=hcut
     have hlo1:first / (top+1)≤Q:=HTR.out.2.1
     generalize first / (top+1)=lo1 at *
     have hT2:=hT1.drewN k
     generalize hwo:w1.drewN k=wo at *
     have hb2:Below wr.heap.size wr wo:=by rw [← hwo];exact below_drewN hb1' k
     have hrr2:RdI wo w1.heap.size A1 r1:=by rw [← hwo];exact hrr.drewN k
     have hz2:wo.heap.size=w1.heap.size:=by rw [← hwo];rfl
     obtain ⟨wu,rfl⟩:∃ wu:World,wu=wr:=⟨_,rfl⟩
     have HWO:=Lib.hid hwo
     clear hwo
     go_wp2_with fail
     go_loopw [11,12] (fun av bv wr2=>∃ a b:Int,av=.int .i64 a∧bv=.int .i64 b∧0≤a∧a≤Q∧Q≤b∧b≤32767∧Below wo.heap.size wo wr2) (fun av bv _=>(intOf bv-intOf av).toNat)
     case atStart=>exact ⟨_,_,rfl,rfl,hA0,hlo1,hhi1,hhi2,Below.refl _ _⟩
     case round =>
      obtain ⟨a,b,rfl,rfl,ha0,haQ,hQb,hb9,hbo⟩:=hrel
      have hTo:=hT2.nx hbo
      have hTd:=hTo.drew
      have hbW:=hTd.2.2.2
      have hl3:=hTd.2.2.1.lt
      have hbo2:=hbo.drew
      obtain ⟨c10,c11⟩:=hTo.2.1.cell2
      obtain ⟨d10,d11⟩:=hTd.2.1.cell2
      have hSb:Sm (vd l'):=by
       have:=HSB.out
       have:=H7'.out
       have hm:=Bp_mono (show 38≤40 by omega)
       show ((vd l').natAbs:Int)<Bp 40
       omega
      have hSm:∀ m:Int,0≤m→m≤32767→Sm (m*vd l'):=fun m m0 m1=>sm_mul m0 (by omega) (by omega) (by have:=HSB.out;have:=H7'.out;omega)
      have HSM:=Lib.hid hSm
      clear hSm
      go_wp2_with fail
      ·go_region_held3 (fun w'=>w'.cell? ⟨w.heap.size+1,1,none⟩=some (.slice A' l'.length c'))
        (first | exact c11|exact d11|exact c11'|exact c11''|go_simp)
        (first
        | (go_at_call 132;(with_reducible refine (of_any _ _ (by omega) (by omega)).mono ?_);rintro e wa ⟨va1,rfl,hNa,hba⟩;obtain ⟨c10',c11'⟩:=(hTd.2.1.nx hba).cell2;obtain ⟨sa1,Aa1,na1,ca1,rfl⟩:=hNa.shape)
        | (go_at_call 181;(with_reducible refine (mul_any _ _ _ _ _ hNa (HBY.out _ (hbW.trans (hba.mono (by omega)))) (sm_of (by omega) (by omega)) hSb).mono ?_);rintro e wb ⟨vb1,rfl,hNb,hbb⟩;obtain ⟨c10'',c11''⟩:=((hTd.2.1.nx hba).nx hbb).cell2;obtain ⟨Ab1,cb1,lb,rfl,g2,g3,g4,g5,g6,g7⟩:=hNb;have hlb:=sm_len (HSM.out _ (by omega) (by omega)) g6 g7;have ok4:=g6.1;have G7:=Lib.hid g7;clear g7)
        | (go_at_call 259;(with_reducible refine (less_any lb r1 _ _ _ _ _ _ _ rfl rfl (by omega) (by omega) ok4 ok3 g5.rd (((hrr2.below' hbo2 (by omega)).below' hba (by have:=hbo2.size;omega)).below' hbb (by have:=hbo2.size;have:=hba.size;omega))).mono ?_);rintro e w' ⟨rfl,rfl⟩))
       all_goals
        have g7':vd lb=(a+b+1)/2*vd l':=by
         have:=Int.mul_nonneg (show 0≤(a+b+1)/2 by omega) (show 0≤vd l' by omega)
         have:=G7.out
         omega
        have hbo4:=hba.size
        have hbo5:=hbo2.size
        have hbo6:=(hbo2.trans (hba.mono hbo5)).trans (hbb.mono (by omega))
        have hq5:=Int.ediv_mul_le (vd r1) (show vd l'≠0 by omega)
        rw [HQD.out] at hq5
        have e1:cmpI (vd lb) (vd r1)≤0 ↔ vd lb≤vd r1:=by unfold cmpI;split <;> (try split) <;> omega
        have e2:vd lb≤vd r1 ↔ (a+b+1)/2≤Q:=by
         rw [g7']
         constructor
         ·intro h
          rw [← HQD.out]
          exact Int.le_ediv_of_mul_le (by omega) h
         ·intro h
          exact Int.le_trans (Int.mul_le_mul_of_nonneg_right h (by omega)) hq5
        have e3:cmpI (vd lb) (vd r1)≤0 ↔ (a+b+1)/2≤Q:=e1.trans e2
        clear e1 e2
        generalize cmpI (vd lb) (vd r1)=cv at *
        go_wp2_with fail
       ·exact ⟨⟨_,_,rfl,rfl,by omega,by omega,by omega,by omega,hbo6⟩,by simp only [intOf];omega⟩
       ·exact ⟨⟨_,_,rfl,rfl,by omega,by omega,by omega,by omega,hbo6⟩,by simp only [intOf];omega⟩
      ·obtain rfl:a=Q:=by omega
       have hqk:=HQD.out
       have hm0:=Int.mul_nonneg ha0 (show 0≤vd l' by omega)
       have hm1:=Int.ediv_mul_le (vd r1) (show vd l'≠0 by omega)
       have hlq:∀ m:List Int,vd m=(a*vd l').natAbs→Norm m→m.length≤r1.length∧vd m≤vd r1:=fun m h hn=>by
        have hm2:vd m≤vd r1:=by rw [hqk] at hm1;omega
        exact ⟨norm_len hn (by have:=vd_lt ok3;omega),hm2⟩
       have HLQ:=Lib.hid hlq
       clear hqk hm0 hm1 hlq
       go_region_held3 (fun w'=>w'.cell? ⟨w.heap.size+1,1,none⟩=some (.slice A' l'.length c'))
        (first | exact c11|exact d11|exact c11'|exact c11''|exact c11x|go_simp)
        (first
        | (go_at_call 132;(with_reducible refine (of_any _ _ (by omega) (by omega)).mono ?_);rintro e wa ⟨va1,rfl,hNa,hba⟩;obtain ⟨c10',c11'⟩:=(hTd.2.1.nx hba).cell2;obtain ⟨sa1,Aa1,na1,ca1,rfl⟩:=hNa.shape)
        | (go_at_call 181;(with_reducible refine (mul_any _ _ _ _ _ hNa (HBY.out _ (hbW.trans (hba.mono (by omega)))) (sm_of (by omega) (by omega)) hSb).mono ?_);rintro e wb ⟨vb1,rfl,hNb,hbb⟩;obtain ⟨c10'',c11''⟩:=((hTd.2.1.nx hba).nx hbb).cell2;obtain ⟨Ab1,cb1,lb,rfl,g2,g3,g4,g5,g6,g7⟩:=hNb;have hlb:=sm_len (HSM.out _ (by omega) (by omega)) g6 g7;have ok4:=g6.1;have G7:=Lib.hid g7;have hl9:=HLQ.out lb g7 g6;clear g7;have hl10:=hl9.1;have hl11:=hl9.2)
        | (go_at_call 260;(with_reducible refine (rest_any r1 lb _ _ _ _ _ _ _ rfl rfl (by omega) hl10 ok3 ok4 hl11 (((((hrr2.below' hbo2 (by omega)).below' hba (by have:=hbo2.size;omega)).below' hbb (by have:=hbo2.size;have:=hba.size;omega))).more (by have:=hbo2.size;have:=hba.size;have:=hbb.size;omega)) g5.rd).mono ?_);rintro e wx ⟨vx,rfl,⟨Ax,cx,lx,rfl,x2,x3,x4,x5,x6,x7⟩,hbx⟩;obtain ⟨c10x,c11x⟩:=(((hTd.2.1.nx hba).nx hbb).nx hbx).cell2;have X7:=Lib.hid x7;clear x7))
       have hqlen:q.length≤40:=by have:=hF.2.1;omega
       have z1:=hbo2.size
       have z2:=hba.size
       have z3:=hbb.size
       have z4:=hbx.size
       have hw5:Below wo.heap.size wo wx:=((hbo2.trans (hba.mono z1)).trans (hbb.mono (by omega))).trans (hbx.mono (by omega))
       have hw6:Below w1.heap.size w1 wx:=by
        have h9:Below w1.heap.size w1 wo:=by rw [← HWO.out];exact below_drewN (Below.refl _ _) k
        exact h9.trans (hz2▸hw5)
       have hTx:=hT2.nx hw5
       have hrqx:=hrq1.below hw6 (Nat.le_refl _)
       have hownq:(wx.alloc (.cells #[.int .i64 a] 3)).ownsRow wx.heap.size 3 1 (.slice (some ⟨wx.heap.size,0,none⟩) 1 1) 1 [.int .i64 a]:=by
        simpa using own_of_Bk (base:=wx.heap.size) (Bk.new wx 3 #[.int .i64 a]) 1 rfl (by omega) (Nat.le_refl _)
       go_wp2_with (at_builtin;go_loud (refine appR rfl _ _ _ rfl Tryz.underlying120 big_int_info rfl (by omega) rfl rfl hownq ((Below.refl _ wx).alloc (Nat.le_refl _) _) (Nat.le_refl _) (by simp) ((RdL.rd hrqx).alloc (Nat.le_refl _) _) (by simp) (intsL q) (by omega) (by omega) ?_);intro vy wy howny hby _ _ _)
       have hA6:=own_form2 howny
       have hRL:RdL wy (w.heap.size+1+1+1) (slA vy) ([Value.int .i64 a]++q.map (Value.int .i64)):=by
        obtain ⟨Ay,cy,rfl,_⟩:=hA6
        exact (RdL.of_own howny).less (by omega)
       obtain ⟨Ay,cy,rfl,y1,y2,y3,y4,y5⟩:=hA6
       have hTy:=hTx.nx hby
       have hF2:=flO_step (Q:=a) hF ok1 (by omega) hY1 (by rw [← HV1.out];exact HQD.out.symm) x6 (by rw [X7.out,← HV1.out];have:=G7.out;have:=Int.mul_nonneg ha0 (show 0≤vd l' by omega);omega)
       have hL:([Value.int .i64 a]++q.map (Value.int .i64))=(a::q).map (Value.int .i64):=by simp
       rw [hL] at hRL
       have hlen9:1+q.length=(a::q).length:=by simp;omega
       rw [hlen9] at y1 ⊢
       exact ⟨⟨jj,a::q,lx,Ay,cy,Ax,cx,by omega,rfl,rfl,rfl,y1,y2,y3,hRL,x2,x3,x4,(x5.below hby (by omega)).rd,hF2.1,hTy⟩,by simp only [intOf];omega⟩
theorem floor_any (va vb:Value) (x y:Int) (w:World) {lo lo':Nat} (ha:BigN lo w va x) (hb:BigN lo' w vb y) (hy:y≠0) (hsa:Sm x) (hsb:(y.natAbs:Int)<Bp 38) :
 Calls Tryz.prog 194 #[va,vb] w fun e w'=>∃ v,e=.returned v∧BigN w.heap.size w' v (flo x y)∧Below w.heap.size w w':=by
 rcases Int.lt_or_le (x.natAbs:Int) (Bp 4) with h|h
 ·rcases Int.lt_or_le (y.natAbs:Int) (Bp 4) with h'|h'
  ·exact floor_short va vb x y w ha hb hy h h'
  ·exact floor_long va vb x y w ha hb hy hsa hsb (.inr h')
 ·exact floor_long va vb x y w ha hb hy hsa hsb (.inl h)
end Go.Proofs.YtjbelhpgbcnlmaaGreat
end
section
set_option linter.unusedVariables false
namespace Go.Proofs.YtjbelhpgbcnlmaaGreat
open Go.RowKit
def lim:Int:=70368744177664
def cutZ (z:Int):Int:=if lim<z then lim else if z < -lim then -lim else z
theorem cmp_pos (x y:Int):(0<cmpI x y) ↔ y<x:=by unfold cmpI;split <;> (try split) <;> omega
theorem cmp_neg (x y:Int):(cmpI x y<0) ↔ x<y:=by unfold cmpI;split <;> (try split) <;> omega
theorem cmp_zero (x y:Int):(cmpI x y=0) ↔ x=y:=by unfold cmpI;split <;> (try split) <;> omega
theorem pow46 (w:World):Calls Tryz.prog 202 #[.int .i64 46] w fun e w'=>∃ v,e=.returned v∧BigN w.heap.size w' v lim∧Below w.heap.size w w' :=
 pow_any1 46 w (by omega)
theorem pow16 (w:World):Calls Tryz.prog 202 #[.int .i64 16] w fun e w'=>∃ v,e=.returned v∧BigN w.heap.size w' v 65536∧Below w.heap.size w w' :=
 pow_any1 16 w (by omega)
theorem sm_small {z:Int} (h:-1000000000000000000000000≤z) (h':z≤1000000000000000000000000):Sm z:=sm_of (by omega) (by omega)
set_option maxRecDepth 100000 in
set_option maxHeartbeats 1000000 in
theorem cut_any (va:Value) (z:Int) (w:World) {lo:Nat} (ha:BigN lo w va z) (hs:Sm z) :
 Calls Tryz.prog 193 #[va] w fun e w'=>e=.returned (.int .i64 (cutZ z))∧Below w.heap.size w w':=by
 obtain ⟨s,A,n,c,rfl⟩:=ha.shape
 have hlim:Hid (lim=70368744177664):=rfl
 have hb0:Below w.heap.size w (w.alloc (.cells #[.bool s,.slice A n c] 166)):=by go_grown
 go_enter Tryz.func193,Tryz.ntmps193
 go_wp2_with fail
 refine (pow46 _).mono ?_
 rintro e w1 ⟨v1,rfl,hN1,hb1⟩
 obtain ⟨s1,A1,n1,c1,rfl⟩:=hN1.shape
 have hK0:Bk (w1.alloc (.cells #[.bool s1,.slice A1 n1 c1] 166)) w.heap.size 166 #[.bool s,.slice A n c]:=((Bk.new w _ _).nx hb1).alloc _
 have hK1:Bk (w1.alloc (.cells #[.bool s1,.slice A1 n1 c1] 166)) w1.heap.size 166 #[.bool s1,.slice A1 n1 c1]:=Bk.new w1 _ _
 have hz1:=hb1.size
 simp only [World.size_alloc] at hz1
 have hb2:Below w.heap.size w (w1.alloc (.cells #[.bool s1,.slice A1 n1 c1] 166)):=(hb0.trans (hb1.mono (by simp))).alloc (by omega) _
 have hN2:=(hN1.alloc (.cells #[.bool s1,.slice A1 n1 c1] 166)).any
 have ha2:=ha.nx hb2
 have hl2:=hK1.lt
 have hsl:Sm lim:=sm_small (by simp [lim]) (by simp [lim])
 have hsl':Sm (-lim):=sm_small (by simp [lim]) (by simp [lim])
 clear hN1 hb1 hb0
 go_wp2_with (first
  | (refine ldBig rfl _ rfl hK0 rfl ?_)
  | (refine ldBig rfl _ rfl hK1 rfl ?_)
  | (go_at_call 131;(with_reducible refine (cmp_any _ _ z lim _ ha2 hN2 hs hsl).mono ?_);rintro e w3 ⟨rfl,hb3⟩;have hK0':=hK0.nx hb3;have hK1':=hK1.nx hb3;have ha3:=ha2.nx hb3;have hN3:=hN2.nx hb3;have hz3:=hb3.size;have hb4:=hb2.trans (hb3.mono (by omega)))
  | (refine ldBig rfl _ rfl hK1' rfl ?_)
  | (go_at_call 133;(with_reducible refine (small_any _ lim _ hN3 (by simp [lim]) (by simp [lim])).mono ?_);rintro e w4 ⟨rfl,hb5⟩;have hz4:=hb5.size))
 ·rename_i hc
  have hc1:=(cmp_pos z lim).1 hc
  go_returns
  exact ⟨ret_int (by unfold cutZ;rw [if_pos hc1]),hb4.trans (hb5.mono (by omega))⟩
 ·rename_i hc
  have hc1:¬lim<z:=fun h=>by have:=(cmp_pos z lim).2 h;omega
  have ha5:=ha3.drew
  have hN5:=hN3.drew
  have hK0d:=hK0'.drew
  have hK1d:=hK1'.drew
  have hb4d:=hb4.drew
  obtain ⟨d00,d01⟩:=hK0d.cell2
  obtain ⟨d10,d11⟩:=hK1d.cell2
  have hl3:=hK1d.lt
  clear hK0 hK1 ha2 hN2 hb2 ha3 hN3
  go_region_held3 (fun w'=>w'.cell? ⟨w.heap.size,0,none⟩=some (.bool s)∧w'.cell? ⟨w.heap.size,1,none⟩=some (.slice A n c)∧w'.cell? ⟨w1.heap.size,0,none⟩=some (.bool s1)∧w'.cell? ⟨w1.heap.size,1,none⟩=some (.slice A1 n1 c1))
   (first | exact ⟨d00,d01,d10,d11⟩|exact ⟨e00,e01,e10,e11⟩|exact ⟨f00,f01,f10,f11⟩|(refine ⟨?_,?_,?_,?_⟩ <;> go_simp))
   (first
   | (go_at_call 183;(with_reducible refine (neg_any _ lim _ hN5 hsl).mono ?_);rintro e wa ⟨va,rfl,hNa,hba⟩;obtain ⟨sa,Aa,na,ca,rfl⟩:=hNa.shape;obtain ⟨e00,e01⟩:=(hK0d.nx hba).cell2;obtain ⟨e10,e11⟩:=(hK1d.nx hba).cell2)
   | (go_at_call 131;(with_reducible refine (cmp_any _ _ z (-lim) _ (ha5.nx hba) hNa hs hsl').mono ?_);rintro e wb ⟨rfl,hbb⟩;obtain ⟨f00,f01⟩:=((hK0d.nx hba).nx hbb).cell2;obtain ⟨f10,f11⟩:=((hK1d.nx hba).nx hbb).cell2;have hK0b:=(hK0d.nx hba).nx hbb;have hK1b:=(hK1d.nx hba).nx hbb;have hNb:=(hN5.nx hba).nx hbb;have hab:=(ha5.nx hba).nx hbb;have hza:=hba.size;have hzb:=hbb.size))
  have hb6:=(hb4d.trans (hba.mono (by omega))).trans (hbb.mono (by omega))
  have hsz:-lim≤z→-9223372036854775808≤z∧z≤9223372036854775807:=fun h=>by have:lim=70368744177664:=rfl;omega
  have HSZ:=Lib.hid hsz
  clear hsz
  go_wp2_with (first
   | (refine ldBig rfl _ rfl hK1b rfl ?_)
   | (refine ldBig rfl _ rfl hK0b rfl ?_)
   | (go_at_call 133;(with_reducible refine (small_any _ lim _ hNb (by simp [lim]) (by simp [lim])).mono ?_);rintro e wd ⟨rfl,hbd⟩)
   | (go_at_call 133;rename_i hcc;have hcd:-lim≤z:=by { rcases Int.lt_or_le z (-lim) with h|h;{ have:=(cmp_neg z (-lim)).2 h;omega };exact h };obtain ⟨hz8,hz9⟩:=HSZ.out hcd;(with_reducible refine (small_any _ z _ hab hz8 hz9).mono ?_);rintro e wd ⟨rfl,hbd⟩))
  ·rename_i hcc
   have hcd:=(cmp_neg z (-lim)).1 hcc
   go_returns
   exact ⟨ret_int (by unfold cutZ;rw [if_neg (by omega),if_pos hcd];simp [lim,wrap64]),hb6.trans (hbd.mono (by omega))⟩
  ·have hce:¬z < -lim:=by omega
   go_returns
   exact ⟨ret_int (by unfold cutZ;rw [if_neg (by omega),if_neg (by omega)]),hb6.trans (hbd.mono (by omega))⟩
theorem sm_shift {x:Int} (h:(x.natAbs:Int)<Bp 38):Sm (x*65536):=by
 show ((x*65536).natAbs:Int)<Bp 40
 have h1:=Bp39s
 have h2:=Bp38s
 omega
theorem sm_38 {x:Int} (h:(x.natAbs:Int)<Bp 38):Sm x:=by
 have:=Bp_mono (show 38≤40 by omega)
 show (x.natAbs:Int)<Bp 40
 omega
set_option maxRecDepth 100000 in
set_option maxHeartbeats 1000000 in
theorem place_any (va vb:Value) (x y:Int) (w:World) {lo lo':Nat} (ha:BigN lo w va x) (hb:BigN lo' w vb y) (hy:y≠0) (hsx:(x.natAbs:Int)<Bp 38) (hsy:(y.natAbs:Int)<Bp 38) :
 Calls Tryz.prog 189 #[va,vb] w fun e w'=>e=.returned (.int .i64 (cutZ (flo (x*65536) y)))∧Below w.heap.size w w':=by
 obtain ⟨s,A,n,c,rfl⟩:=ha.shape
 obtain ⟨s',A',n',c',rfl⟩:=hb.shape
 have hs1:=sm_shift hsx
 have hs0:=sm_38 hsx
 have hs2:Sm (flo (x*65536) y):=by
  have h1:=flo_zero (x:=x*65536) hy
  have h2:((x*65536).natAbs:Int)<Bp 40:=hs1
  show ((flo (x*65536) y).natAbs:Int)<Bp 40
  omega
 have hs3:Sm 65536:=sm_small (by omega) (by omega)
 have HSY:=Lib.hid hsy
 have HSX:=Lib.hid hsx
 have HY:=Lib.hid hy
 clear hsx hsy hy
 have hK0:Bk ((w.alloc (.cells #[.bool s,.slice A n c] 166)).alloc (.cells #[.bool s',.slice A' n' c'] 166)).drew w.heap.size 166 #[.bool s,.slice A n c]:=((Bk.new w _ _).alloc _).drew
 have hK1:Bk ((w.alloc (.cells #[.bool s,.slice A n c] 166)).alloc (.cells #[.bool s',.slice A' n' c'] 166)).drew (w.heap.size+1) 166 #[.bool s',.slice A' n' c']:=by
  have:=(Bk.new (w.alloc (.cells #[.bool s,.slice A n c] 166)) 166 #[.bool s',.slice A' n' c']).drew
  simpa using this
 have hb0:Below w.heap.size w ((w.alloc (.cells #[.bool s,.slice A n c] 166)).alloc (.cells #[.bool s',.slice A' n' c'] 166)).drew:=by go_grown
 have ha0:=ha.nx hb0
 have hbb0:=hb.nx hb0
 have hl:=hK1.lt
 obtain ⟨d00,d01⟩:=hK0.cell2
 obtain ⟨d10,d11⟩:=hK1.cell2
 go_enter Tryz.func189,Tryz.ntmps189
 go_wp2_with fail
 go_region_held3 (fun w'=>w'.cell? ⟨w.heap.size,0,none⟩=some (.bool s)∧w'.cell? ⟨w.heap.size,1,none⟩=some (.slice A n c)∧w'.cell? ⟨w.heap.size+1,0,none⟩=some (.bool s')∧w'.cell? ⟨w.heap.size+1,1,none⟩=some (.slice A' n' c'))
  (first | exact ⟨d00,d01,d10,d11⟩|exact ⟨e00,e01,e10,e11⟩|exact ⟨f00,f01,f10,f11⟩|exact ⟨g00,g01,g10,g11⟩|exact ⟨h00,h01,h10,h11⟩|(refine ⟨?_,?_,?_,?_⟩ <;> go_simp))
  (first
  | (go_at_call 202;(with_reducible refine (pow16 _).mono ?_);rintro e wa ⟨va,rfl,hNa,hba⟩;obtain ⟨sa,Aa,na,ca,rfl⟩:=hNa.shape;have hKa0:=hK0.nx hba;have hKa1:=hK1.nx hba;have haa:=ha0.nx hba;have hab:=hbb0.nx hba;obtain ⟨e00,e01⟩:=hKa0.cell2;obtain ⟨e10,e11⟩:=hKa1.cell2)
  | (go_at_call 181;(with_reducible refine (mul_any _ _ _ _ _ haa hNa hs0 hs3).mono ?_);rintro e wm ⟨vm,rfl,hNm,hbm⟩;obtain ⟨sm,Am,nm,cm,rfl⟩:=hNm.shape;have hKm0:=hKa0.nx hbm;have hKm1:=hKa1.nx hbm;have hmb:=hab.nx hbm;obtain ⟨f00,f01⟩:=hKm0.cell2;obtain ⟨f10,f11⟩:=hKm1.cell2)
  | (go_at_call 194;(with_reducible refine (floor_any _ _ _ _ _ hNm hmb HY.out hs1 HSY.out).mono ?_);rintro e wf ⟨vf,rfl,hNf,hbf⟩;obtain ⟨sf,Af,nf,cf,rfl⟩:=hNf.shape;have hKf0:=hKm0.nx hbf;have hKf1:=hKm1.nx hbf;obtain ⟨g00,g01⟩:=hKf0.cell2;obtain ⟨g10,g11⟩:=hKf1.cell2)
  | (go_at_call 193;(with_reducible refine (cut_any _ _ _ hNf hs2).mono ?_);rintro e wc ⟨rfl,hbc⟩;have hKc0:=hKf0.nx hbc;have hKc1:=hKf1.nx hbc;obtain ⟨h00,h01⟩:=hKc0.cell2;obtain ⟨h10,h11⟩:=hKc1.cell2))
 have z1:=hba.size
 have z2:=hbm.size
 have z3:=hbf.size
 have hbz:=(((hb0.trans (hba.mono (by omega))).trans (hbm.mono (by omega))).trans (hbf.mono (by omega))).trans (hbc.mono (by omega))
 go_wp2_with fail
 go_returns
 exact ⟨ret_int rfl,hbz⟩
end Go.Proofs.YtjbelhpgbcnlmaaGreat
end
section
set_option linter.unusedVariables false
namespace Go.Proofs.YtjbelhpgbcnlmaaGreat
open Go.RowKit
def cel:Value→List Value|.agg cs=>cs.toList|_=>[]
def flat (vs:List Value):List Value:=vs.flatMap cel
def Bigs (lo:Nat) (w:World) (v:Value) (zs:List Int):Prop :=
 ∃ A c vs,v=.slice A zs.length c∧zs.length≤c∧c≤maxLen∧(A=none→c=0)∧vs.length=zs.length∧RdL w lo A (flat vs)∧∀ k,k<zs.length→BigN lo w (vs.getD k undef) (zs.getD k 0)
theorem flat_len (lo:Nat) (w:World) (vs:List Value) (zs:List Int) (hl:vs.length=zs.length) (h:∀ k,k<zs.length→BigN lo w (vs.getD k undef) (zs.getD k 0)):(flat vs).length=2*zs.length:=by
 induction vs generalizing zs with
 | nil=>cases zs <;> simp_all [flat]
 | cons v vs ih =>
   cases zs with
   | nil=>simp at hl
   | cons z zs =>
     obtain ⟨s,A,n,c,e⟩:=(h 0 (by simp)).shape
     simp at e
     have:=ih zs (by simpa using hl) (fun k hk=>by simpa using h (k+1) (by simpa using hk))
     simp only [flat,List.flatMap_cons,List.length_append,e,cel]
     simp only [flat] at this
     rw [this]
     simp;omega
theorem flat_get {lo:Nat} {w:World} (vs:List Value) (zs:List Int) (hl:vs.length=zs.length) (h:∀ k,k<zs.length→BigN lo w (vs.getD k undef) (zs.getD k 0)) (k:Nat) (hk:k<zs.length) {s:Bool} {A:Option Addr} {n c:Nat} (hv:vs.getD k undef=.agg #[.bool s,.slice A n c]) :
 (flat vs)[2*k]?=some (.bool s)∧(flat vs)[2*k+1]?=some (.slice A n c):=by
 induction vs generalizing zs k with
 | nil=>simp at hl;omega
 | cons v vs ih =>
   cases zs with
   | nil=>simp at hl
   | cons z zs =>
     obtain ⟨s0,A0,n0,c0,e⟩:=(h 0 (by simp)).shape
     simp at e
     subst e
     cases k with
     | zero=>simp at hv;obtain ⟨rfl,rfl,rfl,rfl⟩:=hv;simp [flat,cel]
     | succ k =>
       have:=ih zs (by simpa using hl) (fun k hk=>by simpa using h (k+1) (by simpa using hk)) k (by simpa using hk) (by simpa using hv)
       have e1:2*(k+1)=2*k+2:=by omega
       rw [e1]
       simpa [flat,cel] using this
theorem Bigs.get {lo:Nat} {w:World} {A:Option Addr} {n c:Nat} {zs:List Int} (h:Bigs lo w (.slice A n c) zs) (k:Nat) (hk:k<zs.length) :
 ∃ b o s A' n' c',A=some ⟨b,o,none⟩∧lo≤b∧b<w.heap.size∧w.cell? ⟨b,o+k*2,none⟩=some (.bool s)∧w.cell? ⟨b,o+k*2+1,none⟩=some (.slice A' n' c')∧BigN lo w (.agg #[.bool s,.slice A' n' c']) (zs.getD k 0):=by
 obtain ⟨A0,c0,vs,e,h1,h2,h3,h4,h5,h6⟩:=h
 injection e with e1 e2 e3
 subst e1
 obtain ⟨s,A',n',c',e⟩:=(h6 k hk).shape
 obtain ⟨g1,g2⟩:=flat_get vs zs h4 h6 k hk e
 have hl:=flat_len lo w vs zs h4 h6
 obtain ⟨b,o,rfl,b1,b2,hc⟩:=h5 (2*k) (by omega)
 obtain ⟨b',o',e',b1',b2',hc'⟩:=h5 (2*k+1) (by omega)
 injection e' with e'
 injection e' with e1 e2
 subst e1 e2
 rw [(List.getElem_eq_iff _).2 g1] at hc
 rw [(List.getElem_eq_iff _).2 g2] at hc'
 rw [Nat.mul_comm 2 k] at hc hc'
 exact ⟨b,o,s,A',n',c',rfl,b1,b2,hc,hc',by rw [← e];exact h6 k hk⟩
theorem Bigs.keep {lo:Nat} {w w':World} {B:Nat} {v:Value} {zs:List Int} (h:Bigs lo w v zs) (hb:Below B w w') (hB:w.heap.size≤B):Bigs lo w' v zs:=by
 obtain ⟨A0,c0,vs,e,h1,h2,h3,h4,h5,h6⟩:=h
 exact ⟨A0,c0,vs,e,h1,h2,h3,h4,h5.below hb hB,fun k hk=>(h6 k hk).keep hb hB⟩
theorem Bigs.nx {lo:Nat} {w w':World} {v:Value} {zs:List Int} (h:Bigs lo w v zs) (hb:Below w.heap.size w w'):Bigs lo w' v zs:=h.keep hb (Nat.le_refl _)
theorem Bigs.less {lo lo':Nat} {w:World} {v:Value} {zs:List Int} (h:Bigs lo w v zs) (hl:lo'≤lo):Bigs lo' w v zs:=by
 obtain ⟨A0,c0,vs,e,h1,h2,h3,h4,h5,h6⟩:=h
 exact ⟨A0,c0,vs,e,h1,h2,h3,h4,h5.less hl,fun k hk=>(h6 k hk).less hl⟩
theorem Bigs.drew {lo:Nat} {w:World} {v:Value} {zs:List Int} (h:Bigs lo w v zs):Bigs lo w.drew v zs:=h.keep (Below.refl w.heap.size w).drew (Nat.le_refl _)
theorem Bigs.grown {lo:Nat} {w w':World} {v:Value} {zs:List Int} {g:Nat} (h:Bigs lo w v zs) (hg:w.grownBy w' (some g)) (hr:g<lo∨w.heap.size≤g):Bigs lo w' v zs:=by
 obtain ⟨A0,c0,vs,e,h1,h2,h3,h4,h5,h6⟩:=h
 exact ⟨A0,c0,vs,e,h1,h2,h3,h4,h5.grown hg (fun g' e=>by injection e with e;subst e;exact hr),fun k hk=>(h6 k hk).grown hg hr⟩
theorem Bigs.form {lo:Nat} {w:World} {v:Value} {zs:List Int} (h:Bigs lo w v zs):∃ A c,v=.slice A zs.length c∧zs.length≤c∧c≤maxLen:=by
 obtain ⟨A0,c0,vs,e,h1,h2,_⟩:=h
 exact ⟨A0,c0,e,h1,h2⟩
theorem Bigs.get2 {lo:Nat} {w wr:World} {A:Option Addr} {n c:Nat} {zs:List Int} (h:Bigs lo w (.slice A n c) zs) (hb:Below w.heap.size w wr) (k:Nat) (hk:k<zs.length) :
 ∃ b o s A' n' c',A=some ⟨b,o,none⟩∧lo≤b∧b<w.heap.size∧wr.cell? ⟨b,o+k*2,none⟩=some (.bool s)∧wr.cell? ⟨b,o+k*2+1,none⟩=some (.slice A' n' c')∧BigN lo w (.agg #[.bool s,.slice A' n' c']) (zs.getD k 0)∧BigN lo wr (.agg #[.bool s,.slice A' n' c']) (zs.getD k 0):=by
 obtain ⟨b,o,s,A',n',c',e,b1,b2,c1,c2,hN⟩:=h.get k hk
 exact ⟨b,o,s,A',n',c',e,b1,b2,(hb.cell b2).trans c1,(hb.cell b2).trans c2,hN,hN.nx hb⟩
def Off (g:Option Nat) (v:Value):Prop:=∀ s a n c,v=.agg #[s,.slice (some a) n c]→0<n→some a.block≠g
theorem BigN.off {lo:Nat} {w:World} {v:Value} {z:Int} (h:BigN lo w v z) {g:Option Nat} (hg:∀ k,g=some k→k<lo∨w.heap.size≤k):Off g v:=by
 obtain ⟨A,c,l,rfl,h2,h3,h4,h5,h6,h7⟩:=h
 intro s a n c' e hn
 injection e with e
 have e2:=congrArg (fun x:Array Value=>x[1]?) e
 simp at e2
 obtain ⟨rfl,rfl,rfl⟩:=e2
 obtain ⟨b,o,e3,b1,b2,_⟩:=h5 0 (by simpa using hn)
 injection e3 with e3
 subst e3
 intro hh
 have:=hg _ hh.symm
 simp at this
 omega
theorem BigN.kept {lo:Nat} {w w':World} {v:Value} {z:Int} {g:Option Nat} (h:BigN lo w v z) (ho:Off g v) (hg:w.grownBy w' g):BigN lo w' v z:=by
 obtain ⟨A,c,l,rfl,h2,h3,h4,h5,h6,h7⟩:=h
 refine ⟨A,c,l,rfl,h2,h3,h4,?_,h6,h7⟩
 intro k hk
 obtain ⟨b,o,e,b1,b2,hc⟩:=h5 k hk
 refine ⟨b,o,e,b1,Nat.lt_of_lt_of_le b2 hg.size,?_⟩
 refine (World.cell?_of_block (hg.block b b2 ?_)).trans hc
 exact ho _ ⟨b,o,none⟩ _ _ (by rw [e]) (by simp at hk;omega)
def BigsO (lo base:Nat) (w:World) (v:Value) (zs:List Int):Prop :=
 ∃ vs,vs.length=zs.length∧w.ownsRow base 166 2 v zs.length (flat vs)∧∀ k,k<zs.length→BigN lo w (vs.getD k undef) (zs.getD k 0)∧Off v.ownBlock (vs.getD k undef)
theorem BigsO.nil (lo base:Nat) (w:World):BigsO lo base w (.slice none 0 0) []:=⟨[],rfl,World.ownsRow_nil _ _ _ _,fun k hk=>absurd hk (by simp)⟩
theorem BigsO.bigs {lo base:Nat} {w:World} {v:Value} {zs:List Int} (h:BigsO lo base w v zs) (hlo:lo≤base):Bigs lo w v zs:=by
 obtain ⟨vs,h1,h2,h3⟩:=h
 have h4:=RdL.of_own (A:=slA v) (c:=0) (n:=zs.length) (w:=w) (base:=base) (e:=166) (size:=2) (xs:=flat vs)
 obtain ⟨A,c,rfl,k1,k2,k3,k4,k5⟩:=own_form2 h2
 exact ⟨A,c,vs,rfl,k1,k2,k3,h1,(RdL.of_own h2).less hlo,fun k hk=>(h3 k hk).1⟩
theorem BigsO.kept {lo base:Nat} {w w':World} {v:Value} {zs:List Int} (h:BigsO lo base w v zs) (hg:w.grownBy w' none):BigsO lo base w' v zs:=by
 obtain ⟨vs,h1,h2,h3⟩:=h
 exact ⟨vs,h1,h2.kept hg (by cases v.ownBlock <;> simp),fun k hk=>⟨(h3 k hk).1.kept (fun s a n c e hn=>by simp) hg,(h3 k hk).2⟩⟩
theorem BigsO.nx {lo base:Nat} {w w':World} {v:Value} {zs:List Int} (h:BigsO lo base w v zs) (hb:Below w.heap.size w w'):BigsO lo base w' v zs :=
 h.kept ⟨hb.os,hb.tape,hb.output,hb.size,fun k hk _=>hb.block k hk⟩
theorem BigsO.lt {lo base:Nat} {w:World} {v:Value} {zs:List Int} (h:BigsO lo base w v zs):∀ k,v.ownBlock=some k→base≤k∧k<w.heap.size:=by
 obtain ⟨vs,h1,h2,h3⟩:=h
 exact h2.lt
theorem big_info2:(Tryz.prog.info? 166).map (fun i=>(i.zero,i.size,i.bytes))=some (some (.agg #[.bool false,.slice none 0 0]),2,32):=by kernel_rfl
theorem getD_snoc_lt {α:Type} (l:List α) (x d:α) (k:Nat) (h:k<l.length):(l++[x]).getD k d=l.getD k d:=by rw [List.getD_eq_getElem?_getD,List.getD_eq_getElem?_getD,List.getElem?_append_left h]
theorem getD_snoc_eq {α:Type} (l:List α) (x d:α):(l++[x]).getD l.length d=x:=by simp
theorem appBig {ops:Array Oper} {rest:List Oper} {o:Oper} {a:Act} {Q:Exit→Act→World→Prop} (hgd:o.guard=none) (s x:Operand)
 (ho:o.op=.call { callee:=.builtin .append,args:=#[s,x],argTypes:=#[162,162] })
 {w W:World} {B lo base g:Nat} {v:Value} {zs:List Int} {z:Int} {b:Bool} {A:Option Addr} {n c:Nat}
 (hK:Bk w g 166 #[.bool b,.slice A n c]) (hO:BigsO lo base w v zs) (hz:BigN lo w (.agg #[.bool b,.slice A n c]) z) (hoff:Off v.ownBlock (.agg #[.bool b,.slice A n c]))
 (hs:a.eval s=v) (hx:a.eval x=.slice (some ⟨g,0,none⟩) 1 1)
 (hbel:Below B W w) (hB:B≤base) (hbase:base≤w.heap.size) (hlen:zs.length≤100000)
 (h:∀ v' w',BigsO lo base w' v' (zs++[z])→Below B W w'→w.heap.size≤w'.heap.size→w.grownBy w' v.ownBlock→(v'.ownBlock=v.ownBlock∨v'.ownBlock=some w.heap.size)→wpList Tryz.prog ops Q rest (a.put o.dst v') w') :
 wpList Tryz.prog ops Q (o::rest) a w:=by
 obtain ⟨vs,h1,h2,h3⟩:=hO
 have hown:w.ownsRow 0 166 2 (.slice (some ⟨g,0,none⟩) 1 1) 1 [.bool b,.slice A n c]:=by
  exact ⟨rfl,.inr ⟨g,1,_,rfl,Nat.zero_le _,hK,Nat.le_refl _,by simp [maxLen],rfl,rfl⟩⟩
 refine appR hgd s x _ ho Tryz.underlying162 big_info2 rfl (by omega) hs hx h2 hbel hB hbase (Rd.of_own hown) rfl (by simp [Value.oneCell']) (by omega) (by omega) ?_
 intro v' w' k1 k2 k3 k4 k5
 refine h v' w' ⟨vs++[.agg #[.bool b,.slice A n c]],by simp [h1],by simpa [flat,cel] using k1,?_⟩ k2 k3 k4 k5
 intro k hk
 have hsep:∀ e y,BigN lo w e y→Off v.ownBlock e→BigN lo w' e y∧Off v'.ownBlock e:=fun e y he hoe=>by
  refine ⟨he.kept hoe k4,?_⟩
  rcases k5 with e5|e5
  ·rw [e5];exact hoe
  ·rw [e5];exact he.off (fun k hk=>by injection hk;omega)
 rcases Nat.lt_or_ge k zs.length with hlt|hge
 ·rw [getD_snoc_lt _ _ _ _ (by omega),getD_snoc_lt _ _ _ _ hlt]
  exact hsep _ _ (h3 k hlt).1 (h3 k hlt).2
 ·obtain rfl:k=vs.length:=by simp at hk;omega
  rw [getD_snoc_eq,h1,getD_snoc_eq]
  exact hsep _ _ hz hoff
set_option maxHeartbeats 1000000 in
theorem bigs_of (A:Option Addr) (n c:Nat) (l:List Int) (w:World) {B:Nat} (hn:l.length=n) (hl:n≤1000) (hr:Rd w B A (l.map (Value.int .i64))) (hB:B≤w.heap.size) (hok:∀ z∈l,-9223372036854775808≤z∧z≤9223372036854775807) :
 Calls Tryz.prog 104 #[.slice A n c] w fun e w'=>∃ v,e=.returned v∧Bigs w.heap.size w' v l∧Below w.heap.size w w':=by
 have HOK:=Lib.hid hok
 have HN:=Lib.hid hn
 clear hok hn
 go_enter Tryz.func104,Tryz.ntmps104
 go_wp2_with fail
 go_loopw [3,4] (fun v iv wr=>∃ k:Nat,k≤n∧iv=.int .i64 k∧BigsO w.heap.size w.heap.size wr v (l.take k)∧Below w.heap.size w wr) (fun _ iv _=>n-(intOf iv).toNat)
 case atStart=>exact ⟨0,Nat.zero_le _,rfl,BigsO.nil _ _ _,Below.refl _ _⟩
 case round =>
  obtain ⟨k,hk,rfl,hO,hb⟩:=hrel
  rcases Nat.lt_or_ge k n with hlt|hge
  ·obtain ⟨b,o,rfl,hb1,hc1⟩:=(hr.below' hb (by omega)).get k (by simp [HN.out];omega)
   obtain ⟨z,hz⟩:∃ z,l[k]?=some z:=⟨l[k]'(by rw [HN.out];exact hlt),by simp [HN.out,hlt]⟩
   have hc2:wr.cell? ⟨b,o+k,none⟩=some (.int .i64 z):=by
    rw [hc1];congr 1
    rw [List.getElem_map]
    congr 1
    exact (List.getElem_eq_iff _).2 hz
   obtain ⟨hz1,hz2⟩:=HOK.out z (List.mem_of_getElem? hz)
   have HZ:=Lib.hid hz
   clear hc1 hz
   have hbs:=hb.size
   have hlt2:=hO.lt
   have HL2:=Lib.hid hlt2
   clear hlt2
   go_wp2_with (first
    | (go_at_call 132;(with_reducible refine (of_any z _ hz1 hz2).mono ?_);rintro e w1 ⟨v1,rfl,hN1,hb2⟩;obtain ⟨s1,A1,n1,c1,rfl⟩:=hN1.shape;have hoff1:=hN1.off (fun k hk=>.inl (HL2.out k hk).2))
    | (at_builtin;go_loud (refine appBig rfl _ _ rfl (Bk.new w1 _ _) ((hO.nx hb2).nx ((Below.refl _ w1).alloc (Nat.le_refl _) _)) ((hN1.alloc _).less hbs) hoff1 rfl rfl (((hb.trans (hb2.mono hbs))).alloc (Nat.le_trans hbs hb2.size) _) (Nat.le_refl _) (by have:=hb2.size;simp;omega) (by simp;omega) ?_);intro v' w' k1 k2 k3 k4 k5))
   have ht:l.take (k+1)=l.take k++[z]:=by rw [List.take_add_one,HZ.out];rfl
   rw [← ht] at k1
   exact ⟨⟨k+1,by omega,by go_num,k1,k2⟩,by simp only [intOf];omega⟩
  ·obtain rfl:k=n:=by omega
   have hO2:=hO.bigs (Nat.le_refl _)
   rw [List.take_of_length_le (by rw [HN.out];omega)] at hO2
   go_wp2_with fail
   go_returns
   exact ⟨_,rfl,hO2,hb⟩
end Go.Proofs.YtjbelhpgbcnlmaaGreat
end
section
set_option linter.unusedVariables false
namespace Go.Proofs.YtjbelhpgbcnlmaaGreat
open Go.RowKit
def picks (zs:List Int) (r c:Int) (k:Nat):List Int:=((List.range k).filter (fun i:Nat=>decide ((i:Int)/3≠r)&&decide ((i:Int)%3≠c))).map (fun i:Nat=>zs.getD i 0)
theorem picks_zero (zs:List Int) (r c:Int):picks zs r c 0=[]:=rfl
theorem picks_in {zs:List Int} {r c:Int} {k:Nat} (h1:((k:Int)/3)≠r) (h2:(k:Int)%3≠c):picks zs r c (k+1)=picks zs r c k++[zs.getD k 0]:=by
 unfold picks
 rw [List.range_succ,List.filter_append,List.map_append]
 simp [h1,h2]
theorem picks_out {zs:List Int} {r c:Int} {k:Nat} (h:((k:Int)/3)=r∨(k:Int)%3=c):picks zs r c (k+1)=picks zs r c k:=by
 unfold picks
 rw [List.range_succ,List.filter_append,List.map_append]
 rcases h with h|h <;> simp [h]
theorem picks_len (zs:List Int) (r c:Int) (k:Nat):(picks zs r c k).length≤k:=by
 unfold picks
 rw [List.length_map]
 exact Nat.le_trans (List.length_filter_le _ _) (by simp)
theorem picks_nine (zs:List Int) {r c:Int} (h1:0≤r∧r<3) (h2:0≤c∧c<3):(picks zs r c 9).length=4:=by
 unfold picks
 rw [List.length_map]
 have hr:r=0∨r=1∨r=2:=by omega
 have hc:c=0∨c=1∨c=2:=by omega
 rcases hr with rfl|rfl|rfl <;> rcases hc with rfl|rfl|rfl <;> decide
theorem picks_all {P:Int→Prop} {zs:List Int} (h:∀ k,P (zs.getD k 0)) (r c:Int) (k:Nat):∀ z∈picks zs r c k,P z:=by
 intro z hz
 unfold picks at hz
 obtain ⟨i,_,rfl⟩:=List.mem_map.1 hz
 exact h i
theorem getD_all {P:Int→Prop} {l:List Int} (h:∀ z∈l,P z) (h0:P 0) (k:Nat):P (l.getD k 0):=by
 rcases Nat.lt_or_ge k l.length with hk|hk
 ·rw [List.getD_eq_getElem?_getD,List.getElem?_eq_getElem hk];exact h _ (List.getElem_mem hk)
 ·rw [List.getD_eq_getElem?_getD,List.getElem?_eq_none hk];exact h0
def det2 (l:List Int):Int:=l.getD 0 0*l.getD 3 0-l.getD 1 0*l.getD 2 0
def minorZ (zs:List Int) (r c:Int):Int:=det2 (picks zs r c 9)
def En (z:Int):Prop:=(z.natAbs:Int)<Bp 9
theorem Bigs.get4 {lo:Nat} {w:World} {A:Option Addr} {n c:Nat} {zs:List Int} (h:Bigs lo w (.slice A n c) zs) (hl:zs.length=4) :
 ∃ b o s0 s1 s2 s3 A0 A1 A2 A3 n0 n1 n2 n3 c0 c1 c2 c3,A=some ⟨b,o,none⟩∧b<w.heap.size ∧
  (w.cell? ⟨b,o,none⟩=some (.bool s0)∧w.cell? ⟨b,o+1,none⟩=some (.slice A0 n0 c0)∧w.cell? ⟨b,o+2,none⟩=some (.bool s1)∧w.cell? ⟨b,o+3,none⟩=some (.slice A1 n1 c1) ∧
  w.cell? ⟨b,o+4,none⟩=some (.bool s2)∧w.cell? ⟨b,o+5,none⟩=some (.slice A2 n2 c2)∧w.cell? ⟨b,o+6,none⟩=some (.bool s3)∧w.cell? ⟨b,o+7,none⟩=some (.slice A3 n3 c3)) ∧
  BigN lo w (.agg #[.bool s0,.slice A0 n0 c0]) (zs.getD 0 0)∧BigN lo w (.agg #[.bool s1,.slice A1 n1 c1]) (zs.getD 1 0)∧BigN lo w (.agg #[.bool s2,.slice A2 n2 c2]) (zs.getD 2 0)∧BigN lo w (.agg #[.bool s3,.slice A3 n3 c3]) (zs.getD 3 0):=by
 obtain ⟨b,o,s0,A0,n0,c0,e,b1,b2,p0,p1,hN0⟩:=h.get 0 (by omega)
 subst e
 obtain ⟨b',o',s1,A1,n1,c1,e,_,_,p2,p3,hN1⟩:=h.get 1 (by omega)
 injection e with e
 injection e with e1 e2
 subst e1 e2
 obtain ⟨b',o',s2,A2,n2,c2,e,_,_,p4,p5,hN2⟩:=h.get 2 (by omega)
 injection e with e
 injection e with e1 e2
 subst e1 e2
 obtain ⟨b',o',s3,A3,n3,c3,e,_,_,p6,p7,hN3⟩:=h.get 3 (by omega)
 injection e with e
 injection e with e1 e2
 subst e1 e2
 exact ⟨b,o,s0,s1,s2,s3,A0,A1,A2,A3,n0,n1,n2,n3,c0,c1,c2,c3,rfl,b2,⟨p0,p1,p2,p3,p4,p5,p6,p7⟩,hN0,hN1,hN2,hN3⟩
theorem c8_nx {w w':World} {B b o:Nat} {u0 u1 u2 u3 u4 u5 u6 u7:Value} (h:w.cell? ⟨b,o,none⟩=some u0∧w.cell? ⟨b,o+1,none⟩=some u1∧w.cell? ⟨b,o+2,none⟩=some u2∧w.cell? ⟨b,o+3,none⟩=some u3 ∧
 w.cell? ⟨b,o+4,none⟩=some u4∧w.cell? ⟨b,o+5,none⟩=some u5∧w.cell? ⟨b,o+6,none⟩=some u6∧w.cell? ⟨b,o+7,none⟩=some u7) (hb:Below B w w') (hB:b<B) :
 w'.cell? ⟨b,o,none⟩=some u0∧w'.cell? ⟨b,o+1,none⟩=some u1∧w'.cell? ⟨b,o+2,none⟩=some u2∧w'.cell? ⟨b,o+3,none⟩=some u3 ∧
  w'.cell? ⟨b,o+4,none⟩=some u4∧w'.cell? ⟨b,o+5,none⟩=some u5∧w'.cell? ⟨b,o+6,none⟩=some u6∧w'.cell? ⟨b,o+7,none⟩=some u7:=by
 obtain ⟨h0,h1,h2,h3,h4,h5,h6,h7⟩:=h
 exact ⟨(hb.cell hB).trans h0,(hb.cell hB).trans h1,(hb.cell hB).trans h2,(hb.cell hB).trans h3,(hb.cell hB).trans h4,(hb.cell hB).trans h5,(hb.cell hB).trans h6,(hb.cell hB).trans h7⟩
theorem en_zero:En 0:=Bp_pos 9
theorem en_sm {z:Int} (h:En z):Sm z:=by
 have:=Bp_mono (show 9≤40 by omega)
 show (z.natAbs:Int)<Bp 40
 have h2:(z.natAbs:Int)<Bp 9:=h
 omega
theorem natAbs_mul_lt {x y:Int} {m n:Nat} (hx:(x.natAbs:Int)<Bp m) (hy:(y.natAbs:Int)<Bp n):((x*y).natAbs:Int)<Bp (m+n):=by
 rw [Int.natAbs_mul,Int.natCast_mul,Bp_add]
 have h1:(0:Int)≤x.natAbs:=by omega
 have h2:(0:Int)≤y.natAbs:=by omega
 calc (x.natAbs:Int)*y.natAbs≤Bp m*y.natAbs:=Int.mul_le_mul_of_nonneg_right (by omega) h2
  _<Bp m*Bp n:=Int.mul_lt_mul_of_pos_left hy (Bp_pos m)
theorem en_mul {x y:Int} (hx:En x) (hy:En y):((x*y).natAbs:Int)<Bp 18:=natAbs_mul_lt hx hy
set_option maxRecDepth 100000 in
set_option maxHeartbeats 2000000 in
theorem minor_any (v:Value) (zs:List Int) (r c:Int) (w:World) {lo:Nat} (hv:Bigs lo w v zs) (hl:zs.length=9) (hr:0≤r∧r<3) (hc:0≤c∧c<3) (hz:∀ k,En (zs.getD k 0)) :
 Calls Tryz.prog 182 #[v,.int .i64 r,.int .i64 c] w fun e w'=>∃ u,e=.returned u∧BigN w.heap.size w' u (minorZ zs r c)∧Below w.heap.size w w':=by
 obtain ⟨A,cp,rfl,hcp1,hcp2⟩:=hv.form
 have HL:=Lib.hid hl
 have HZ:=Lib.hid hz
 have hl9:9≤zs.length:=by omega
 have hv':Bigs lo w (.slice A 9 cp) zs:=hl▸hv
 rw [hl]
 clear hl hz hv hcp1
 have hK0:=Bk.new w 166 #[.bool false,.slice none 0 0]
 have hb00:Below w.heap.size w (w.alloc (.cells #[.bool false,.slice none 0 0] 166)):=by go_grown
 have hz0:w.heap.size+1=(w.alloc (.cells #[.bool false,.slice none 0 0] 166)).heap.size:=by simp
 go_enter Tryz.func182,Tryz.ntmps182
 go_wp2_with fail
 go_loopw [7,8] (fun v iv wr=>∃ k:Nat,k≤9∧iv=.int .i64 k∧BigsO 0 (w.heap.size+1) wr v (picks zs r c k)∧Bk wr w.heap.size 166 #[.bool false,.slice none 0 0]∧Below w.heap.size w wr∧w.heap.size+1≤wr.heap.size) (fun _ iv _=>9-(intOf iv).toNat)
 case atStart=>exact ⟨0,by omega,rfl,BigsO.nil _ _ _,hK0,hb00,by simp⟩
 case round =>
  obtain ⟨k,hk,rfl,hO,hK,hb,hsz⟩:=hrel
  have hlen:=picks_len zs r c k
  rcases Nat.lt_or_ge k 9 with hlt|hge
  ·have hk1:(k:Int)<9:=by omega
   obtain ⟨b,o,s,A',n',c',rfl,b1,b2,c1,c2,hNw,hN⟩:=hv'.get2 hb k (by omega)
   have hlt2:=hO.lt
   have HL2:=Lib.hid hlt2
   clear hlt2
   have hoff1:=hNw.off (fun kk hk=>.inr (Nat.le_of_succ_le (HL2.out kk hk).1))
   by_cases h1:(k:Int)/3=r
   ·have hp:=picks_out (zs:=zs) (r:=r) (c:=c) (k:=k) (.inl h1)
    rw [← hp] at hO
    clear hp
    go_wp2_with fail
    exact ⟨⟨k+1,by omega,by go_num,hO,hK,hb,hsz⟩,by simp only [intOf];omega⟩
   ·by_cases h2:(k:Int)%3=c
    ·have hp:=picks_out (zs:=zs) (r:=r) (c:=c) (k:=k) (.inr h2)
     rw [← hp] at hO
     clear hp
     go_wp2_with fail
     exact ⟨⟨k+1,by omega,by go_num,hO,hK,hb,hsz⟩,by simp only [intOf];omega⟩
    ·have hp:=picks_in (zs:=zs) (r:=r) (c:=c) (k:=k) h1 h2
     have HP:=Lib.hid hp
     clear hp
     have hx1:((k:Int)/3 != r)=true:=by simp [h1]
     have hx2:((k:Int)%3 != c)=true:=by simp [h2]
     have hKr:=hK.alloc (.cells #[.bool s,.slice A' n' c'] 166)
     have hOr:=hO.nx ((Below.refl _ wr).alloc (Nat.le_refl _) (.cells #[.bool s,.slice A' n' c'] 166))
     have hNr:=(hN.alloc (.cells #[.bool s,.slice A' n' c'] 166)).any
     go_wp2_with (at_builtin;go_loud (refine appBig rfl _ _ rfl (Bk.new wr _ _) hOr hNr hoff1 rfl rfl (hb.alloc (by omega) _) (by omega) (by simp;omega) (by omega) ?_);intro v' w' k1 k2 k3 k4 k5)
     rw [← HP.out] at k1
     have k6:=k3
     simp only [World.size_alloc] at k6
     exact ⟨⟨k+1,by omega,by go_num,k1,hKr.grown k4 (fun e=>by have:=HL2.out _ e.symm;omega),k2,by omega⟩,by simp only [intOf];omega⟩
  ·obtain rfl:k=9:=by omega
   have hlen4:=picks_nine zs hr hc
   have hB:=hO.bigs (Nat.zero_le _)
   have hpz:=picks_all (P:=En) HZ.out r c 9
   generalize hps:picks zs r c 9=ps at *
   have HPS:=Lib.hid hps
   have HL2:=Lib.hid hO.lt
   clear hv' hO hps
   obtain ⟨Ap,cpp,e7,hp1,hp2⟩:=hB.form
   rw [hlen4] at e7
   subst e7
   obtain ⟨b,o,s0,s1,s2,s3,A0,A1,A2,A3,n0,n1,n2,n3,q0,q1,q2,q3,rfl,hbb,C0,hN0,hN1,hN2,hN3⟩:=hB.get4 hlen4
   have hbne:w.heap.size+1≤b:=(HL2.out b rfl).1
   have hbne2:b≠w.heap.size:=by omega
   have e0:En (ps.getD 0 0):=getD_all hpz en_zero 0
   have e1:En (ps.getD 1 0):=getD_all hpz en_zero 1
   have e2:En (ps.getD 2 0):=getD_all hpz en_zero 2
   have e3:En (ps.getD 3 0):=getD_all hpz en_zero 3
   have HD:=Lib.hid (show det2 ps=ps.getD 0 0*ps.getD 3 0-ps.getD 1 0*ps.getD 2 0 from rfl)
   generalize ps.getD 0 0=z0 at *
   generalize ps.getD 1 0=z1 at *
   generalize ps.getD 2 0=z2 at *
   generalize ps.getD 3 0=z3 at *
   have m1:=en_mul e0 e3
   have m2:=en_mul e1 e2
   have m3:Sm (z0*z3):=sm_38 (by have:=Bp_mono (show 18≤38 by omega);omega)
   have m4:Sm (z1*z2):=sm_38 (by have:=Bp_mono (show 18≤38 by omega);omega)
   have M1:=Lib.hid m1
   have M2:=Lib.hid m2
   have s0':=en_sm e0
   have s1':=en_sm e1
   have s2':=en_sm e2
   have s3':=en_sm e3
   clear hK0 hpz m1 m2 e0 e1 e2 e3
   have C1:=c8_nx C0 (Below.refl wr.heap.size wr).drew hbb
   have hKd:=hK.drew
   have hd0:=hN0.drew
   have hd1:=hN1.drew
   have hd2:=hN2.drew
   have hd3:=hN3.drew
   have hbd:=hb.drew
   have hsd:wr.drew.heap.size=wr.heap.size:=rfl
   have HSD:=Lib.hid hsd
   have hlt3:b<wr.drew.heap.size:=hbb
   have hlt4:w.heap.size<wr.drew.heap.size:=hKd.lt
   clear hsd
   go_wp2_with fail
   go_region_held3 (fun w'=>w'.cell? ⟨b,o,none⟩=some (.bool s0)∧w'.cell? ⟨b,o+1,none⟩=some (.slice A0 n0 q0)∧w'.cell? ⟨b,o+2,none⟩=some (.bool s1)∧w'.cell? ⟨b,o+3,none⟩=some (.slice A1 n1 q1) ∧
    w'.cell? ⟨b,o+4,none⟩=some (.bool s2)∧w'.cell? ⟨b,o+5,none⟩=some (.slice A2 n2 q2)∧w'.cell? ⟨b,o+6,none⟩=some (.bool s3)∧w'.cell? ⟨b,o+7,none⟩=some (.slice A3 n3 q3))
    (first | exact C0|exact C1|exact C2|exact C3|exact C4|(refine ⟨?_,?_,?_,?_,?_,?_,?_,?_⟩ <;> go_simp))
    (first
    | (go_at_call 181;(with_reducible refine (mul_any _ _ _ _ _ hd0 hd3 s0' s3').mono ?_);rintro e wa ⟨va,rfl,hNa,hba⟩;obtain ⟨sa,Aa,na,ca,rfl⟩:=hNa.shape;have C2:=c8_nx C1 hba hlt3;have hza:=hba.size;have hK2:=hKd.nx hba;have hf1:=hd1.nx hba;have hf2:=hd2.nx hba)
    | (go_at_call 181;(with_reducible refine (mul_any _ _ _ _ _ hf1 hf2 s1' s2').mono ?_);rintro e wb ⟨vb,rfl,hNb,hbb2⟩;obtain ⟨sb,Ab,nb,cb,rfl⟩:=hNb.shape;have C3:=c8_nx C2 hbb2 (by omega);have hzb:=hbb2.size;have hK3:=hK2.nx hbb2;have hNa3:=hNa.nx hbb2)
    | (go_at_call 134;(with_reducible refine (sub_any _ _ _ _ _ hNa3 hNb m3 m4).mono ?_);rintro e wc ⟨vc,rfl,hNc,hbc⟩;obtain ⟨sc,Ac,nc,cc,rfl⟩:=hNc.shape;have C4:=c8_nx C3 hbc (by omega);have hzc:=hbc.size;have hK4:=hK3.nx hbc;have f20:=hK4.frozen 0;have f21:=hK4.frozen 1;obtain ⟨c20,c21⟩:=hK4.cell2))
   go_wp2_with fail
   refine bodyPost_ret (res_big rfl (hK4.set2 _ _) rfl) rfl ?_
   have hbz:=((hbd.trans (hba.mono (by omega))).trans (hbb2.mono (by omega))).trans (hbc.mono (by omega))
   have hmz:minorZ zs r c=z0*z3-z1*z2:=by unfold minorZ;rw [HPS.out];exact HD.out
   rw [hmz]
   exact ⟨_,rfl,(hNc.grown (gb2 wc _ _ _) (.inl (by omega))).less (by omega),below_of_gb hbz (gb2 wc _ _ _) (by omega) (by omega)⟩
theorem minor_lt {zs:List Int} (h:∀ k,En (zs.getD k 0)) (r c:Int):((minorZ zs r c).natAbs:Int)<2*Bp 18:=by
 have hpz:=picks_all (P:=En) h r c 9
 have h1:=en_mul (getD_all hpz en_zero 0) (getD_all hpz en_zero 3)
 have h2:=en_mul (getD_all hpz en_zero 1) (getD_all hpz en_zero 2)
 unfold minorZ det2
 omega
end Go.Proofs.YtjbelhpgbcnlmaaGreat
end
end
