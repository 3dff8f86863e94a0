/- Several texts in one: What a transform's map answers (the bundles MapFn, NewIs, NewMp); xform.Check, Size and Kind out of them. quot: the nearer quotient; weight: sums as bytes. Several texts in one: linear: a channel; By, of a source's image. (Printed by wip/tools/gensp8.py.) linear.By, of a source's image. -/
import Derived.Test.YtjbelhpgbcnlmaaGreatSamplePixelsZz8
import Derived.Deep.QuietTactic
import Derived.BigQuiet
import Derived.Deep.Cut
import Derived.Deep.DeepCutAuto
import Derived.Test.YtjbelhpgbcnlmaaGreatSamplePixelsZz1
import Derived.Test.YtjbelhpgbcnlmaaGreatSamplePixelsZz2
import Derived.Test.YtjbelhpgbcnlmaaGreatSamplePixelsZz15
import Derived.Lib.QuietBelow
section
set_option linter.unusedVariables false
namespace Go.Proofs.YtjbelhpgbcnlmaaGreat
open Go.RowKit
theorem run_maxM {P:Program} {w:World} (ts:Array TypeId) (t:TypeId) (k k':IntKind) (x y:Int):(Builtin.max_ ts t #[.int k x,.int k' y]).run P w=.ok (.int k (max x y)) w:=by
 rw [run_max_int2]
 congr 2
 split <;> omega
theorem run_minM {P:Program} {w:World} (ts:Array TypeId) (t:TypeId) (k k':IntKind) (x y:Int):(Builtin.min_ ts t #[.int k x,.int k' y]).run P w=.ok (.int k (min x y)) w:=by
 rw [run_min_int2]
 congr 2
 split <;> omega
theorem Bk.same {w w':World} {g:Nat} {t:TypeId} {cs:Array Value} (h:Bk w g t cs) (e:w'.heap[g]?=w.heap[g]?):Bk w' g t cs:=e.trans h
abbrev xfV (k:Int) (A:Option Addr) (n cp:Nat):Value:=.agg #[.int .i64 k,.slice A n cp]
def MapFn (lo hi:Nat) (w:World) (p:Option Addr) (F G E:Int→Int→Int→Int):Prop :=
 ∀ w':World,hi≤w'.heap.size→(∀ i,lo≤i→i<hi→w'.heap[i]?=w.heap[i]?)→∀ x y d,Calls Tryz.prog 48 #[.pointer p,.int .i64 x,.int .i64 y,.int .i64 d] w' fun e w''=>e=.returned (.tuple #[.int .i64 (F x y d),.int .i64 (G x y d),.int .i64 (E x y d)])∧Below w'.heap.size w' w''
theorem MapFn.at {lo:Nat} {w w':World} {p:Option Addr} {F G E:Int→Int→Int→Int} (h:MapFn lo w.heap.size w p F G E) (hb:Below w.heap.size w w') (x y d:Int) :
 Calls Tryz.prog 48 #[.pointer p,.int .i64 x,.int .i64 y,.int .i64 d] w' fun e w''=>e=.returned (.tuple #[.int .i64 (F x y d),.int .i64 (G x y d),.int .i64 (E x y d)])∧Below w'.heap.size w' w'' :=
 h w' hb.size (fun i _ hi=>hb.block i hi) x y d
def NewIs (k:Int) (A:Option Addr) (sn cp:Nat) (W H:Int) (w:World) (C:Int) (F G E:Int→Int→Int→Int):Prop :=
 ∀ w',Below w.heap.size w w'→Calls Tryz.prog 14 #[.agg #[.int .i64 k,.slice A sn cp],.int .i64 W,.int .i64 H] w' fun e w''=>∃ p,e=.returned (.tuple #[.pointer p,.int .i64 C])∧(C≠0→p=none)∧(C=0→MapFn w'.heap.size w''.heap.size w'' p F G E)∧Below w'.heap.size w' w''
theorem NewIs.nx {k:Int} {A:Option Addr} {sn cp:Nat} {W H:Int} {w w':World} {C:Int} {F G E:Int→Int→Int→Int} (h:NewIs k A sn cp W H w C F G E) (hb:Below w.heap.size w w'):NewIs k A sn cp W H w' C F G E :=
 fun w'' hb'=>h w'' (hb.trans (hb'.mono hb.size))
def NewMp (k:Int) (A:Option Addr) (sn cp:Nat) (W H:Int) (w:World) (C:Int) (F G E:Int→Int→Int→Int):Prop :=
 ∀ w',Below w.heap.size w w'→Calls Tryz.prog 14 #[.agg #[.int .i64 k,.slice A sn cp],.int .i64 W,.int .i64 H] w' fun e w''=>∃ p,e=.returned (.tuple #[.pointer p,.int .i64 C])∧(C≠0→p=none)∧(C=0→MapFn w'.heap.size w''.heap.size w'' p F G E∧∃ q,p=some ⟨q,0,none⟩∧w'.heap.size≤q∧∃ v,Bk w'' q 100 #[.int .i64 k,.int .i64 W,.int .i64 H,v])∧Below w'.heap.size w' w''
theorem NewMp.is {k:Int} {A:Option Addr} {sn cp:Nat} {W H:Int} {w:World} {C:Int} {F G E:Int→Int→Int→Int} (h:NewMp k A sn cp W H w C F G E):NewIs k A sn cp W H w C F G E:=fun w' hb =>
 (h w' hb).mono fun _ _ ⟨p,h1,h2,h3,h4⟩=>⟨p,h1,h2,fun hc=>(h3 hc).1,h4⟩
set_option maxRecDepth 100000 in
set_option maxHeartbeats 4000000 in
theorem xcheck_any (k:Int) (A:Option Addr) (n cp:Nat) (W H C:Int) (F G E:Int→Int→Int→Int) (w:World) (hN:NewIs k A n cp W H w C F G E) :
 Calls Tryz.prog 127 #[xfV k A n cp,.int .i64 W,.int .i64 H] w fun e w'=>e=.returned (.int .i64 C)∧Below w.heap.size w w':=by
 have hb:=(Below.refl w.heap.size w).alloc (Nat.le_refl _) (.cells #[.int .i64 k,.slice A n cp] 32)
 have hN1:=hN _ hb
 have hBs:=hb.size
 go_enter Tryz.func127,Tryz.ntmps127
 go_wp2_with (go_at_call 14;(with_reducible refine hN1.mono ?_);rintro e w1 ⟨p,rfl,_,_,hb1⟩)
 go_returns
 exact ⟨rfl,hb.trans (hb1.mono hBs)⟩
theorem xsize_nil (w:World):Calls Tryz.prog 175 #[.pointer none] w fun e w'=>e=.returned (.tuple #[.int .i64 0,.int .i64 0])∧w=w':=by
 go_enter Tryz.func175,Tryz.ntmps175
 go_wp2_with fail
 go_returns
 exact ⟨rfl,rfl⟩
theorem xsize_at (k W H:Int) (v:Value) (q:Nat) (w:World) (hK:Bk w q 100 #[.int .i64 k,.int .i64 W,.int .i64 H,v]):Calls Tryz.prog 175 #[.pointer (some ⟨q,0,none⟩)] w fun e w'=>e=.returned (.tuple #[.int .i64 W,.int .i64 H])∧Below w.heap.size w w':=by
 have hb:=Below.refl w.heap.size w
 obtain ⟨c0,c1,c2,c3⟩:=hK.cell4
 clear hK
 go_enter Tryz.func175,Tryz.ntmps175
 go_upto_region 3 with fail
 go_quiet (fail)
 go_wp2_with fail
 go_returns
 exact ⟨rfl,below_drewN hb _⟩
set_option maxRecDepth 100000 in
set_option maxHeartbeats 4000000 in
theorem xat_nil (x y d:Int) (w:World):Calls Tryz.prog 48 #[.pointer none,.int .i64 x,.int .i64 y,.int .i64 d] w fun e w' =>
 e=.returned (.tuple #[.int .i64 0,.int .i64 0,.int .i64 10])∧w=w':=by
 go_enter Tryz.func48,Tryz.ntmps48
 go_wp2_with fail
 go_returns
 exact ⟨rfl,rfl⟩
end Go.Proofs.YtjbelhpgbcnlmaaGreat
end
section
set_option linter.unusedVariables false
namespace Go.Proofs.YtjbelhpgbcnlmaaGreat
open Go.RowKit
theorem fq_pos {a b:Int} (hb:0<b):fq a b=a/b∧fr a b=a%b:=by
 have h1:fq a b=a/b:=by unfold fq;rw [if_neg (by omega)]
 refine ⟨h1,?_⟩
 unfold fr
 rw [h1]
 have:=Int.mul_ediv_add_emod a b
 omega
def J62 (z:Int):Prop:=-4611686018427387904≤z∧z≤4611686018427387904
theorem div_62 {a b:Int} (ha:J62 a) (hb:1≤b):J62 (a/b)∧J62 (a/b+1-1):=by
 have h:-4611686018427387904≤a/b∧a/b≤4611686018427387904:=by
  unfold J62 at ha
  constructor
  ·have h1:(-4611686018427387904:Int)≤-4611686018427387904/b∨True:=.inr trivial
   have h2:-4611686018427387904*b≤a:=by
    have:4611686018427387904*1≤4611686018427387904*b:=Int.mul_le_mul_of_nonneg_left hb (by omega)
    omega
   exact Int.le_ediv_of_mul_le (by omega) h2
  ·rcases Int.le_total 0 a with h0|h0
   ·have:=Int.ediv_le_self b h0;omega
   ·have:a/b≤0:=by
     rcases Int.lt_or_le 0 (a/b) with h|h
     ·have h3:=Int.mul_pos (show 0<b by omega) h
      have h4:=Int.mul_ediv_add_emod a b
      have h5:=Int.emod_nonneg a (show b≠0 by omega)
      omega
     ·exact h
    omega
 exact ⟨h,by rw [Int.add_sub_cancel];exact h⟩
set_option maxRecDepth 100000 in
set_option maxHeartbeats 8000000 in
theorem qhalfB (a b:Int) (w:World) (ha:J62 a) (hb:1≤b) (hb2:b≤4611686018427387904) :
 Calls Tryz.prog 297 #[WV a,.int .i64 b] w fun e w'=>e=.returned (.tuple #[WV (nearZ a b),.bool true])∧Below w.heap.size w w':=by
 have hW:=fun w'=>qwide_any a b w' (by unfold J62 at ha;unfold Wq;omega) (by omega) (by unfold J64;omega)
 rw [(fq_pos (show 0<b by omega)).1,(fq_pos (show 0<b by omega)).2] at hW
 have hN:=near_parts (a:=a) (show 0<b by omega)
 have r0:=Int.emod_nonneg a (show b≠0 by omega)
 have r1:=Int.emod_lt_of_pos a (show 0<b by omega)
 obtain ⟨q0,q1⟩:=(div_62 ha hb).1
 have hO:=fun w'=>wof_any 1 w' (by unfold J64;omega)
 have hA:=fun w'=>wadd_any (a/b) 1 w' (by unfold Wd;omega) (by unfold Wd;omega) (by unfold Wd;omega)
 have hb0:(b==0)=false:=beq_eq_false_iff_ne.2 (by omega)
 have hL:=((Lie.start w).alloc (wdA a) 289).alloc #[.int .i64 0,.int .u64 0] 289
 simp only [World.size_alloc] at hL
 generalize a/b=q at *
 generalize a%b=r at *
 have u1:IntKind.u64.wrap r=r:=by rw [uw];omega
 have u2:IntKind.u64.wrap b=b:=by rw [uw];omega
 have u3:IntKind.u64.wrap (b-r)=b-r:=by rw [uw];omega
 have HN:=Lib.hid hN
 clear hN ha
 by_cases hlt:r<b-r
 ·have HN2:=Lib.hid (HN.out.trans (if_pos hlt))
  clear HN q0 q1 hO hA
  go_enter Tryz.func297,Tryz.ntmps297
  go_wp2_with (first
   | (go_at_call 279;(with_reducible refine (hW _).mono ?_);rintro e w1 ⟨rfl,hb1⟩;have hL1:=(hL.nx hb1).alloc (wdA q) 289;have k4:Bk _ (w.heap.size+1) 289 #[.int .i64 0,.int .u64 0]:=hL1.k 1 (by simp))
   | (refine stWd rfl _ _ rfl k4 rfl rfl rfl ?_;intro w4 k5 hg4 hs4))
  refine bodyPost_ret (res_wd_tmp rfl k5 rfl) rfl ?_
  exact ⟨by rw [HN2.out];rfl,below_of_gb hL1.bel hg4 (by omega) hL1.sz⟩
 ·have HN2:=Lib.hid (HN.out.trans (if_neg hlt))
  have h4:b-r≤r:=by omega
  clear HN q0 q1 hlt
  go_enter Tryz.func297,Tryz.ntmps297
  go_wp2_with (first
   | (go_at_call 279;(with_reducible refine (hW _).mono ?_);rintro e w1 ⟨rfl,hb1⟩;have hL1:=(hL.nx hb1).alloc (wdA q) 289;have k4:Bk _ (w.heap.size+1) 289 #[.int .i64 0,.int .u64 0]:=hL1.k 1 (by simp)))
  have k6:Bk _ w1.heap.size 289 (wdA q):=hL1.k 0 (by simp)
  generalize hg6:w1.heap.size=g6 at *
  clear k4 hb1 hL hW
  generalize w1.alloc (.cells (wdA q) 289)=w2 at *
  refine wp_region_quiet_tail 5 (by kernel_rfl) (by kernel_rfl) ?_
  simp only [List.take_succ_cons,List.take_zero,List.drop_succ_cons,List.drop_zero]
  repeat (first | (refine wpQuiet_load rfl _ _ rfl k6 rfl Tryz.underlying289 rfl wd_size ?_;simp only [Act.put,List.setIfInBounds_toArray,List.set_cons_zero,List.set_cons_succ])|go_big_quiet_step ((first | with_reducible exact quiet_below (hO _)|with_reducible exact quiet_below (hA _)))|quiet_step ((first | with_reducible exact quiet_below (hO _)|with_reducible exact quiet_below (hA _))))
  refine wpQuiet_nil ?_
  intro _ hw'
  obtain ⟨⟨d',os⟩,hw''⟩:=hw'
  subst hw''
  have hbx:=below_regrown w2 d' os
  generalize Go.Sort.grow (redrawn w2 d') os=wx at *
  have hLx:=hL1.nx hbx
  have k1x:Bk wx (w.heap.size+1) 289 #[.int .i64 0,.int .u64 0]:=hLx.k 1 (by simp)
  go_wp2_with (refine stWd rfl _ _ rfl k1x rfl rfl rfl ?_;intro w4 k5 hg4 hs4)
  refine bodyPost_ret (res_wd_tmp rfl k5 rfl) rfl ?_
  exact ⟨by rw [HN2.out];rfl,below_of_gb hLx.bel hg4 (by omega) hLx.sz⟩
theorem near_62 {a b:Int} (ha:J62 a) (hb:1≤b):J64 (nearZ a b):=by
 have h:=(div_62 ha hb).1
 rw [near_parts (by omega)]
 unfold J62 at h
 unfold J64
 split <;> omega
set_option maxRecDepth 100000 in
set_option maxHeartbeats 8000000 in
theorem qnearB (a b:Int) (w:World) (ha:J62 a) (hb:1≤b) (hb2:b≤4611686018427387904) :
 Calls Tryz.prog 248 #[.int .i64 a,.int .i64 b] w fun e w'=>e=.returned (.tuple #[.int .i64 (nearZ a b),.bool true])∧Below w.heap.size w w':=by
 have hH:=fun w'=>qhalfB a b w' ha hb hb2
 have hO:=fun w'=>wof_any a w' (by unfold J62 at ha;unfold J64;omega)
 have hF:=fun w'=>fits64_yes (nearZ a b) w' (near_62 ha hb)
 have hb0:=Below.refl w.heap.size w
 generalize nearZ a b=z at *
 clear ha hb hb2
 go_enter Tryz.func248,Tryz.ntmps248
 go_wp2_with (first
  | (go_at_call 298;(with_reducible refine (hO _).mono ?_);rintro e w3 ⟨rfl,hb3⟩)
  | (go_at_call 297;(with_reducible refine (hH _).mono ?_);rintro e w4 ⟨rfl,hb4⟩;have hb4':=(hb3.trans (hb4.mono hb3.size)).alloc (Nat.le_trans hb3.size hb4.size) (.cells (wdA z) 289))
  | (go_at_call 299;(with_reducible refine (hF _).mono ?_);rintro e w5 ⟨rfl,hb5⟩))
 go_returns
 exact ⟨rfl,hb4'.trans (hb5.mono hb4'.size)⟩
attribute [local go_sem high] run_maxM run_minM
set_option maxRecDepth 100000 in
set_option maxHeartbeats 8000000 in
theorem wbyte_any (a b:Int) (w:World) (ha:J62 a) (hb:1≤b) (hb2:b≤4611686018427387904) :
 Calls Tryz.prog 220 #[.int .i64 a,.int .i64 b] w fun e w'=>e=.returned (.int .u8 (byteZ a b))∧Below w.heap.size w w':=by
 have hN:=fun w'=>qnearB a b w' ha hb hb2
 have HB:Hid (byteZ a b=max 0 (min (nearZ a b) 255)):=rfl
 clear ha
 generalize nearZ a b=z at *
 have hb1:decide (b<1)=false:=decide_eq_false (by omega)
 have hu:∀ x:Int,0≤x→x≤255→IntKind.u8.wrap x=x:=fun x h1 h2=>by rw [IntKind.wrap_u8];omega
 have hu2:=hu (max 0 (min z 255)) (by omega) (by omega)
 clear hu
 generalize hX:max 0 (min z 255)=X at *
 go_enter Tryz.func220,Tryz.ntmps220
 go_wp2_with (go_at_call 248;(with_reducible refine (hN _).mono ?_);rintro e w2 ⟨rfl,hb2⟩)
 go_returns
 exact ⟨by rw [HB.out];first | (rw [← hu2];rfl)|rfl,hb2⟩
end Go.Proofs.YtjbelhpgbcnlmaaGreat
end
section
section
set_option linter.unusedVariables false
namespace Go.Proofs.YtjbelhpgbcnlmaaGreat
open Go.RowKit
theorem SlP.cell {C lo:Nat} {w:World} {v:Value} {px:List Int} (h:SlP C lo w v px) {kk:Nat} (hk:kk<C):∃ (b o n c:Nat),v=.slice (some ⟨b,o,none⟩) n c∧kk<n∧n≤c∧b<w.heap.size∧w.cell? ⟨b,o+kk,none⟩=some (.int .u8 (px.getD kk 0)):=by
 obtain ⟨A,n,c,L,rfl,h2,h3,h4,h5,h6,h7⟩:=h
 have hkl:kk<(L.map (Value.int .u8)).length:=by rw [List.length_map];omega
 obtain ⟨b,o,rfl,_,hb,hc⟩:=h3 kk hkl
 refine ⟨b,o,n,c,rfl,by omega,h6,hb,?_⟩
 rw [hc,List.getElem_map,← h7,List.getD_eq_getElem?_getD,List.getElem?_take_of_lt hk,List.getElem?_eq_getElem (by omega)]
 rfl
def chA (ch:Nat→Int) (k:Nat):Array Value :=
 let q:=fun j=>Value.int .u8 (if j<k then ch j else 0)
 #[q 0,q 1,q 2,q 3]
theorem ch0 (ch:Nat→Int):chA ch 0=#[.int .u8 0,.int .u8 0,.int .u8 0,.int .u8 0]:=by simp [chA]
theorem ch1 (ch:Nat→Int):chA ch 1=#[.int .u8 (ch 0),.int .u8 0,.int .u8 0,.int .u8 0]:=by simp [chA]
theorem ch2 (ch:Nat→Int):chA ch 2=#[.int .u8 (ch 0),.int .u8 (ch 1),.int .u8 0,.int .u8 0]:=by simp [chA]
theorem ch3 (ch:Nat→Int):chA ch 3=#[.int .u8 (ch 0),.int .u8 (ch 1),.int .u8 (ch 2),.int .u8 0]:=by simp [chA]
theorem ch4 (ch:Nat→Int):chA ch 4=#[.int .u8 (ch 0),.int .u8 (ch 1),.int .u8 (ch 2),.int .u8 (ch 3)]:=by simp [chA]
theorem chA_up {ch:Nat→Int} {k:Nat} (hk:k<4):(chA ch k).setIfInBounds k (.int .u8 (ch k))=chA ch (k+1):=by
 have:k=0∨k=1∨k=2∨k=3:=by omega
 rcases this with rfl|rfl|rfl|rfl <;> simp [chA]
theorem u8s_size:(Tryz.prog.info? 22).map (·.size)=some 1:=by kernel_rfl
@[go_sem] theorem idx_s0 (a b c d:Value) (w:World):(Instr.index 210 (.agg #[a,b,c,d]) (.int .i64 0)).run Tryz.prog w=.ok a w :=
  run_index1 (P:=Tryz.prog) (j:=0) Tryz.underlying210 Tryz.underlying22 rfl u8s_size _ _ (by decide) _ rfl w
@[go_sem] theorem idx_s1 (a b c d:Value) (w:World):(Instr.index 210 (.agg #[a,b,c,d]) (.int .i64 1)).run Tryz.prog w=.ok b w :=
  run_index1 (P:=Tryz.prog) (j:=1) Tryz.underlying210 Tryz.underlying22 rfl u8s_size _ _ (by decide) _ rfl w
@[go_sem] theorem idx_s2 (a b c d:Value) (w:World):(Instr.index 210 (.agg #[a,b,c,d]) (.int .i64 2)).run Tryz.prog w=.ok c w :=
  run_index1 (P:=Tryz.prog) (j:=2) Tryz.underlying210 Tryz.underlying22 rfl u8s_size _ _ (by decide) _ rfl w
@[go_sem] theorem idx_s3 (a b c d:Value) (w:World):(Instr.index 210 (.agg #[a,b,c,d]) (.int .i64 3)).run Tryz.prog w=.ok d w :=
  run_index1 (P:=Tryz.prog) (j:=3) Tryz.underlying210 Tryz.underlying22 rfl u8s_size _ _ (by decide) _ rfl w
theorem rd4 {w:World} {g o:Nat} {k:IntKind} {a b c d:Int} (h0:w.cell? ⟨g,o,none⟩=some (.int k a)) (h1:w.cell? ⟨g,o+1,none⟩=some (.int k b)) (h2:w.cell? ⟨g,o+2,none⟩=some (.int k c)) (h3:w.cell? ⟨g,o+3,none⟩=some (.int k d)) (hg:g<w.heap.size):Rd w w.heap.size (some ⟨g,o,none⟩) ([a,b,c,d].map (Value.int k)):=by
 intro j hj
 have hk4:j=0∨j=1∨j=2∨j=3:=by simp at hj;omega
 rcases hk4 with rfl|rfl|rfl|rfl
 ·exact ⟨g,o,rfl,hg,h0⟩
 ·exact ⟨g,o,rfl,hg,h1⟩
 ·exact ⟨g,o,rfl,hg,h2⟩
 ·exact ⟨g,o,rfl,hg,h3⟩
theorem four_all {P:Int→Prop} {a b c d:Int} (ha:P a) (hb:P b) (hc:P c) (hd:P d) (h0:P 0) (k:Nat):P ([a,b,c,d].getD k 0):=by
 match k with
 | 0=>exact ha
 | 1=>exact hb
 | 2=>exact hc
 | 3=>exact hd
 | k+4=>simpa using h0
theorem four_mul {P:Int→Prop} {a b c d a' b' c' d':Int} (ha:P (a*a')) (hb:P (b*b')) (hc:P (c*c')) (hd:P (d*d')) (h0:P 0) (k:Nat):P ([a,b,c,d].getD k 0*[a',b',c',d'].getD k 0):=by
 match k with
 | 0=>exact ha
 | 1=>exact hb
 | 2=>exact hc
 | 3=>exact hd
 | k+4=>simpa using h0
set_option maxRecDepth 100000 in
set_option maxHeartbeats 16000000 in
theorem lchan_any (S:Nat→Value) (p:Nat→Int) (C kk:Nat) (px:Nat→List Int) (w:World) (hS:∀ j,j<4→SlP C 0 w (S j) (px j)) (hk:kk<C) (hp:∀ j,0≤p j∧p j≤4294967296) (hb:∀ j,0≤(px j).getD kk 0∧(px j).getD kk 0≤255) :
 Calls Tryz.prog 158 #[.agg (lkA S p 4),.int .i64 kk] w fun e w'=>e=.returned (.int .u8 (byteZ (dotK [p 0,p 1,p 2,p 3] [(px 0).getD kk 0,(px 1).getD kk 0,(px 2).getD kk 0,(px 3).getD kk 0] 4) 4294967296))∧Below w.heap.size w w':=by
 obtain ⟨ch,hch⟩:∃ ch:Nat→Int,ch=fun j=>(px j).getD kk 0:=⟨_,rfl⟩
 have hb':∀ j,0≤ch j∧ch j≤255:=fun j=>by rw [hch];exact hb j
 have hc:∀ j,j<4→∃ (b o n c:Nat),S j=.slice (some ⟨b,o,none⟩) n c∧kk<n∧n≤c∧b<w.heap.size∧w.cell? ⟨b,o+kk,none⟩=some (.int .u8 (ch j)):=fun j hj=>by
  rw [hch];exact (hS j hj).cell hk
 rw [show [(px 0).getD kk 0,(px 1).getD kk 0,(px 2).getD kk 0,(px 3).getD kk 0]=[ch 0,ch 1,ch 2,ch 3] by rw [hch]]
 have hM:=fun j=>mulU_bd (M:=4294967296) (by omega) ⟨by have:=(hp j).1;omega,(hp j).2⟩ (hb' j)
 have hmul:∀ k,-1095216660480≤[p 0,p 1,p 2,p 3].getD k 0*[ch 0,ch 1,ch 2,ch 3].getD k 0∧[p 0,p 1,p 2,p 3].getD k 0*[ch 0,ch 1,ch 2,ch 3].getD k 0≤1095216660480 :=
  four_mul (P:=fun z=>-1095216660480≤z∧z≤1095216660480) (hM 0) (hM 1) (hM 2) (hM 3) (by omega)
 have hdot:=dotK_bd (M:=1095216660480) (by omega) hmul 4
 have hvs:∀ k,0≤[ch 0,ch 1,ch 2,ch 3].getD k 0∧[ch 0,ch 1,ch 2,ch 3].getD k 0≤255:=four_all (P:=fun z=>0≤z∧z≤255) (hb' 0) (hb' 1) (hb' 2) (hb' 3) (by omega)
 have hMx:=fun (A A':Option Addr) (w':World) (hA:Rd w' w'.heap.size A ([p 0,p 1,p 2,p 3].map (Value.int .i64))) (hA':Rd w' w'.heap.size A' ([ch 0,ch 1,ch 2,ch 3].map (Value.int .u8)))=>wmix_any [p 0,p 1,p 2,p 3] [ch 0,ch 1,ch 2,ch 3] A A' 4 4 4 w' rfl rfl (by omega) hA hA' (M:=1095216660480) (by omega) (by omega) hmul hvs
 have hBy:=fun (w':World)=>wbyte_any (dotK [p 0,p 1,p 2,p 3] [ch 0,ch 1,ch 2,ch 3] 4) 4294967296 w' (by unfold J62;omega) (by omega) (by omega)
 generalize dotK [p 0,p 1,p 2,p 3] [ch 0,ch 1,ch 2,ch 3] 4=sum at *
 generalize byteZ sum 4294967296=res at *
 obtain ⟨b0,o0,n0,c0,e0,hn0,hm0,hl0,q0⟩:=hc 0 (by omega)
 obtain ⟨b1,o1,n1,c1,e1,hn1,hm1,hl1,q1⟩:=hc 1 (by omega)
 obtain ⟨b2,o2,n2,c2,e2,hn2,hm2,hl2,q2⟩:=hc 2 (by omega)
 obtain ⟨b3,o3,n3,c3,e3,hn3,hm3,hl3,q3⟩:=hc 3 (by omega)
 rw [lk4,e0,e1,e2,e3]
 clear hc e0 e1 e2 e3 hS hk hM hmul hdot hvs hb hb' hp hch
 have hL:=((Lie.start w).alloc #[.slice (some ⟨b0,o0,none⟩) n0 c0,.slice (some ⟨b1,o1,none⟩) n1 c1,.slice (some ⟨b2,o2,none⟩) n2 c2,.slice (some ⟨b3,o3,none⟩) n3 c3,.int .i64 (p 0),.int .i64 (p 1),.int .i64 (p 2),.int .i64 (p 3)] 213).alloc #[.int .u8 0,.int .u8 0,.int .u8 0,.int .u8 0] 25
 simp only [World.size_alloc] at hL
 go_enter Tryz.func158,Tryz.ntmps158
 go_wp2_with fail
 generalize (w.alloc (.cells #[.slice (some ⟨b0,o0,none⟩) n0 c0,.slice (some ⟨b1,o1,none⟩) n1 c1,.slice (some ⟨b2,o2,none⟩) n2 c2,.slice (some ⟨b3,o3,none⟩) n3 c3,.int .i64 (p 0),.int .i64 (p 1),.int .i64 (p 2),.int .i64 (p 3)] 213)).alloc (.cells #[.int .u8 0,.int .u8 0,.int .u8 0,.int .u8 0] 25)=w5 at *
 obtain ⟨g5,hg5⟩:∃ g5,w.heap.size+1=g5:=⟨_,rfl⟩
 rw [hg5] at hL
 simp only [hg5]
 have n5:w.heap.size<g5:=by omega
 clear hg5
 go_loopw [10] (fun iv wr=>∃ k:Nat,k≤4∧iv=.int .i64 k∧Lie w [(g5,25,chA ch k),(w.heap.size,213,#[.slice (some ⟨b0,o0,none⟩) n0 c0,.slice (some ⟨b1,o1,none⟩) n1 c1,.slice (some ⟨b2,o2,none⟩) n2 c2,.slice (some ⟨b3,o3,none⟩) n3 c3,.int .i64 (p 0),.int .i64 (p 1),.int .i64 (p 2),.int .i64 (p 3)])] wr) (fun iv _=>4-(intOf iv).toNat)
 case atStart=>exact ⟨0,by omega,rfl,by rw [ch0];exact hL⟩
 case round =>
  clear hL
  obtain ⟨k,hk,rfl,hLi⟩:=hrel
  rcases (show k=0∨k=1∨k=2∨k=3∨k=4 by omega) with rfl|rfl|rfl|rfl|rfl
  ·have k5:Bk wr g5 25 (chA ch 0):=hLi.k 0 (by simp)
   have e5:=k5
   rw [ch0] at e5
   obtain ⟨d0,d1,d2,d3⟩:=e5.cell4
   have f0:=e5.frozen 0
   have z0:=(hLi.bel.cell (p:=⟨b0,o0+kk,none⟩) hl0).trans q0
   go_wp2_with fail
   exact ⟨⟨1,by omega,by go_num,hLi.set (gb_setCell (World.grownBy.refl wr (some g5)) (p:=⟨g5,0,none⟩) (.inl rfl) (.int .u8 (ch 0))) (by rw [← chA_up (by omega)];exact k5.set 0 (.int .u8 (ch 0))) (by omega) (fun x hx=>by simp only [List.mem_cons,List.not_mem_nil,or_false] at hx;subst hx;simp;omega)⟩,by simp [intOf]⟩
  ·have k5:Bk wr g5 25 (chA ch 1):=hLi.k 0 (by simp)
   have e5:=k5
   rw [ch1] at e5
   obtain ⟨d0,d1,d2,d3⟩:=e5.cell4
   have f0:=e5.frozen 1
   have z0:=(hLi.bel.cell (p:=⟨b1,o1+kk,none⟩) hl1).trans q1
   go_wp2_with fail
   exact ⟨⟨2,by omega,by go_num,hLi.set (gb_setCell (World.grownBy.refl wr (some g5)) (p:=⟨g5,1,none⟩) (.inl rfl) (.int .u8 (ch 1))) (by rw [← chA_up (by omega)];exact k5.set 1 (.int .u8 (ch 1))) (by omega) (fun x hx=>by simp only [List.mem_cons,List.not_mem_nil,or_false] at hx;subst hx;simp;omega)⟩,by simp [intOf]⟩
  ·have k5:Bk wr g5 25 (chA ch 2):=hLi.k 0 (by simp)
   have e5:=k5
   rw [ch2] at e5
   obtain ⟨d0,d1,d2,d3⟩:=e5.cell4
   have f0:=e5.frozen 2
   have z0:=(hLi.bel.cell (p:=⟨b2,o2+kk,none⟩) hl2).trans q2
   go_wp2_with fail
   exact ⟨⟨3,by omega,by go_num,hLi.set (gb_setCell (World.grownBy.refl wr (some g5)) (p:=⟨g5,2,none⟩) (.inl rfl) (.int .u8 (ch 2))) (by rw [← chA_up (by omega)];exact k5.set 2 (.int .u8 (ch 2))) (by omega) (fun x hx=>by simp only [List.mem_cons,List.not_mem_nil,or_false] at hx;subst hx;simp;omega)⟩,by simp [intOf]⟩
  ·have k5:Bk wr g5 25 (chA ch 3):=hLi.k 0 (by simp)
   have e5:=k5
   rw [ch3] at e5
   obtain ⟨d0,d1,d2,d3⟩:=e5.cell4
   have f0:=e5.frozen 3
   have z0:=(hLi.bel.cell (p:=⟨b3,o3+kk,none⟩) hl3).trans q3
   go_wp2_with fail
   exact ⟨⟨4,by omega,by go_num,hLi.set (gb_setCell (World.grownBy.refl wr (some g5)) (p:=⟨g5,3,none⟩) (.inl rfl) (.int .u8 (ch 3))) (by rw [← chA_up (by omega)];exact k5.set 3 (.int .u8 (ch 3))) (by omega) (fun x hx=>by simp only [List.mem_cons,List.not_mem_nil,or_false] at hx;subst hx;simp;omega)⟩,by simp [intOf]⟩
  ·have k5:Bk wr g5 25 (chA ch 4):=hLi.k 0 (by simp)
   have k2:Bk wr w.heap.size 213 #[.slice (some ⟨b0,o0,none⟩) n0 c0,.slice (some ⟨b1,o1,none⟩) n1 c1,.slice (some ⟨b2,o2,none⟩) n2 c2,.slice (some ⟨b3,o3,none⟩) n3 c3,.int .i64 (p 0),.int .i64 (p 1),.int .i64 (p 2),.int .i64 (p 3)]:=hLi.k 1 (by simp)
   rw [ch4] at k5
   have hX:=fun (d:Nat) (os:Array Obj)=>hMx (some ⟨w.heap.size,4,none⟩) (some ⟨g5,0,none⟩) (Go.Sort.grow (redrawn wr d) os)
    (by have k2x:=k2.nx (below_regrown wr d os);obtain ⟨_,_,_,_,h4,h5,h6,h7⟩:=k2x.cell8;exact rd4 h4 h5 h6 h7 k2x.lt)
    (by have k5x:=k5.nx (below_regrown wr d os);obtain ⟨h0,h1,h2,h3⟩:=k5x.cell4;exact rd4 h0 h1 h2 h3 k5x.lt)
   have hbz:=hLi.bel
   clear hMx k5 k2 hLi q0 q1 q2 q3
   go_upto_region 8 with fail
   refine wp_region_quiet_below (by kernel_rfl) (by kernel_rfl) ?_
   repeat (first
    | go_big_quiet_step ((first | with_reducible exact quiet_below (hX _ _)|with_reducible exact quiet_below (hBy _)))
    | quiet_step ((first | with_reducible exact quiet_below (hX _ _)|with_reducible exact quiet_below (hBy _))))
   refine wpQuiet_nil ?_
   intro _ hw'
   obtain ⟨⟨d9,os⟩,hw''⟩:=hw'
   subst hw''
   have hbx:=below_regrown wr d9 os
   generalize Go.Sort.grow (redrawn wr d9) os=wx at *
   go_wp2_with fail
   go_returns
   exact ⟨rfl,hbz.trans (hbx.mono hbz.size)⟩
end Go.Proofs.YtjbelhpgbcnlmaaGreat
end
section
set_option linter.unusedVariables false
namespace Go.Proofs.YtjbelhpgbcnlmaaGreat
open Go.RowKit
def rowA (F:Nat→Int) (C k:Nat):Array Value:=((List.range C).map fun j=>Value.int .u8 (if j<k then F j else 0)).toArray
theorem rowA_size (F:Nat→Int) (C k:Nat):(rowA F C k).size=C:=by simp [rowA]
theorem rowA_get (F:Nat→Int) (C k j:Nat) (h:j<C):(rowA F C k)[j]?=some (.int .u8 (if j<k then F j else 0)):=by
 simp [rowA,h]
theorem rowA_zero (F:Nat→Int) (C:Nat):rowA F C 0=Array.replicate C (.int .u8 0):=by
 apply Array.ext_getElem?
 intro i
 by_cases h:i<C
 ·rw [rowA_get F C 0 i h];simp [h]
 ·rw [Array.getElem?_eq_none (by rw [rowA_size];omega),Array.getElem?_eq_none (by simp;omega)]
theorem rowA_up (F:Nat→Int) (C k:Nat) (h:k<C):(rowA F C k).setIfInBounds k (.int .u8 (F k))=rowA F C (k+1):=by
 apply Array.ext_getElem?
 intro i
 by_cases hi:i<C
 ·rw [rowA_get F C (k+1) i hi,Array.getElem?_setIfInBounds]
  by_cases hk:k=i
  ·subst hk;simp [rowA_size,h]
  ·rw [if_neg hk,rowA_get F C k i hi]
   by_cases h2:i<k
   ·rw [if_pos h2,if_pos (by omega)]
   ·rw [if_neg h2,if_neg (by omega)]
 ·rw [Array.getElem?_eq_none (by simp [rowA_size];omega),Array.getElem?_eq_none (by rw [rowA_size];omega)]
theorem rowA_end (F:Nat→Int) (C:Nat):rowA F C C=(((List.range C).map F).map (Value.int .u8)).toArray:=by
 unfold rowA
 congr 1
 rw [List.map_map]
 refine List.map_congr_left fun j hj=>?_
 rw [if_pos (by simpa using hj)];rfl
def linF (px:Int→Int→List Int) (u v:Int) (kk:Nat):Int :=
 byteZ (dotK [w4 (u%65536) (v%65536) 0,w4 (u%65536) (v%65536) 1,w4 (u%65536) (v%65536) 2,w4 (u%65536) (v%65536) 3]
  [(px (u/65536) (v/65536)).getD kk 0,(px (u/65536+1) (v/65536)).getD kk 0,(px (u/65536) (v/65536+1)).getD kk 0,(px (u/65536+1) (v/65536+1)).getD kk 0] 4) 4294967296
theorem linF_bd (px:Int→Int→List Int) (u v:Int) (kk:Nat):0≤linF px u v kk∧linF px u v kk≤255:=byteZ_bd _ _
set_option maxRecDepth 100000 in
set_option maxHeartbeats 16000000 in
theorem linBy_any {ims:List Im} {A:Option Addr} {n c lo:Nat} {w:World} (hn:ims.length=n) (hA:ImsAt w lo A ims) (k:Nat) (hk:k<ims.length) (hck:checkC ims[k].W ims[k].H ims[k].C ims[k].px.length=0) (mo c0 c1 c2 c3 u v:Int) (C:Nat) (hC:ims[k].C=C)
 (hby:∀ x y kk,0≤(pxM ims[k] mo c0 c1 c2 c3 x y).getD kk 0∧(pxM ims[k] mo c0 c1 c2 c3 x y).getD kk 0≤255)
 (hu:-70368744177664≤u∧u≤70368744177664) (hv:-70368744177664≤v∧v≤70368744177664) :
 Calls Tryz.prog 85 #[getV (.slice A n c) k ims[k].W ims[k].H mo c0 c1 c2 c3,.int .i64 C,.int .i64 u,.int .i64 v] w (OwnU ((List.range C).map (linF (pxM ims[k] mo c0 c1 c2 c3) u v)) w):=by
 obtain ⟨hf,hl⟩:=ck_parts hck
 obtain ⟨hc,hw1,hw2,hh1,hh2,hp⟩:=fitsC_ok hf
 have hct:ims[k].C.toNat=C:=by omega
 have hJ:∀ (w':World) (x y:Int),Below w.heap.size w w'→(-70368744177664≤x∧x≤70368744177664)→(-70368744177664≤y∧y≤70368744177664)→Calls Tryz.prog 100 #[.agg (vwA (.slice A n c) k ims[k].W ims[k].H mo c0 c1 c2 c3),.int .i64 x,.int .i64 y] w' fun e w''=>∃ v,e=.returned v∧(∃ A n c,v=.slice A n c)∧SlP C w'.heap.size w'' v (pxM ims[k] mo c0 c1 c2 c3 x y)∧Below w'.heap.size w' w'':=fun w' x y hb hx hy=>by
  have:=(vpix_any (c:=c) hn (hA.nx hb (Nat.le_refl _)) k hk hck mo c0 c1 c2 c3 x y ⟨by omega,by omega⟩ ⟨by omega,by omega⟩).mono (fun e w'' h=>h.sl)
  rw [hct] at this
  exact this
 have hLk:=llook_any (.agg (vwA (.slice A n c) k ims[k].W ims[k].H mo c0 c1 c2 c3)) (pxM ims[k] mo c0 c1 c2 c3) C u v w hu hv hJ
 have iu:inF u=true:=inF_iff.2 hu
 have iv:inF v=true:=inF_iff.2 hv
 have hin:=fun (w':World)=>linear_in u w'
 have hin2:=fun (w':World)=>linear_in v w'
 rw [iu] at hin
 rw [iv] at hin2
 have hmk:=fun W=>run_make1 (P:=Tryz.prog) Tryz.underlying22 u8_info rfl (C:Int) C rfl (by omega) (by omega) W
 have hC1:¬((C:Int)<1):=by omega
 have hc4:C≤4:=by omega
 have hpp:=w4_bd (f:=u%65536) (g:=v%65536) (by omega) (by omega)
 have hF:∀ (S:Nat→Value) (w':World) (kk:Nat),kk<C→(∀ j,j<4→SlP C 0 w' (S j) (pxM ims[k] mo c0 c1 c2 c3 (u/65536+(j%2:Nat)) (v/65536+(j/2:Nat))))→Calls Tryz.prog 158 #[.agg (lkA S (w4 (u%65536) (v%65536)) 4),.int .i64 kk] w' fun e w''=>e=.returned (.int .u8 (linF (pxM ims[k] mo c0 c1 c2 c3) u v kk))∧Below w'.heap.size w' w'':=fun S w' kk hkk hS=>by
  have:=lchan_any S (w4 (u%65536) (v%65536)) C kk (fun j=>pxM ims[k] mo c0 c1 c2 c3 (u/65536+(j%2:Nat)) (v/65536+(j/2:Nat))) w' hS hkk hpp (fun j=>hby _ _ _)
  simp only [Nat.reduceMod,Nat.reduceDiv,Int.add_zero,show ((0:Nat):Int)=0 from rfl,show ((1:Nat):Int)=1 from rfl] at this
  exact this
 clear hf hl hp hu hv iu iv hJ hpp hby
 generalize w4 (u%65536) (v%65536)=p at *
 generalize linF (pxM ims[k] mo c0 c1 c2 c3) u v=F at *
 generalize pxM ims[k] mo c0 c1 c2 c3=px at *
 generalize ims[k]=m at *
 have hq:=eql_get (.func 100) #[.agg (vwA (.slice A n c) k m.W m.H mo c0 c1 c2 c3)] #[]
 clear hct hC hc hck hw1 hw2 hh1 hh2 hA hn
 generalize m.W=W at *
 generalize m.H=H at *
 go_enter Tryz.func85,Tryz.ntmps85
 go_wp2_with (first
  | (go_at_call 156;(with_reducible refine (hin _).mono ?_);rintro e w1 ⟨rfl,rfl⟩)
  | (go_at_call 156;(with_reducible refine (hin2 _).mono ?_);rintro e w1 ⟨rfl,rfl⟩)
  | (go_at_call 157;(with_reducible refine hLk.mono ?_);rintro e w3 ⟨S,rfl,hS,hb3⟩))
 clear hin hin2 hLk hmk hq
 have hK0:Bk (w3.alloc (.cells (Array.replicate C (.int .u8 0)) 5)) w3.heap.size 5 (rowA F C 0):=by rw [rowA_zero];exact Bk.new _ _ _
 have hb4:=(Below.refl w3.heap.size w3).alloc (Nat.le_refl _) (.cells (Array.replicate C (.int .u8 0)) 5)
 have hz3:=hb3.size
 go_loopw [37] (fun iv wr=>∃ k:Nat,k≤C∧iv=.int .i64 k∧Bk wr w3.heap.size 5 (rowA F C k)∧Below w3.heap.size w3 wr) (fun iv _=>C-(intOf iv).toNat)
 case atStart=>exact ⟨0,by omega,rfl,hK0,hb4⟩
 case round =>
  clear hK0 hb4
  obtain ⟨k,hk,rfl,hKr,hbr⟩:=hrel
  by_cases hlt:k<C
  ·have hCh:=hF S wr k hlt (fun j hj=>(((hS j hj).2.less (Nat.zero_le _)).nx hbr))
   go_wp2_with (go_at_call 158;(with_reducible refine hCh.mono ?_);rintro e w6 ⟨rfl,hb6⟩;have k6:=hKr.nx hb6;have d0:=(k6.cell k).trans (rowA_get F C k k hlt);have f0:=k6.frozen k)
   exact ⟨⟨k+1,by omega,by go_num,by rw [← rowA_up F C k hlt];exact k6.set k _,(hbr.trans (hb6.mono hbr.size)).setCell (Nat.le_refl _) _⟩,by simp [intOf];omega⟩
  ·obtain rfl:k=C:=by omega
   rw [rowA_end] at hKr
   go_wp2_with fail
   go_returns
   refine ⟨_,rfl,?_,hb3.trans (hbr.mono hz3)⟩
   simpa using own_of_Bk (base:=w.heap.size) hKr k (by simp) (by omega) hz3
end Go.Proofs.YtjbelhpgbcnlmaaGreat
end
end
