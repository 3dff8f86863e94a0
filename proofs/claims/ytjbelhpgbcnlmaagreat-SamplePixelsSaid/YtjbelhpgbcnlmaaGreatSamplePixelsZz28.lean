/- Several texts in one: Several texts in one: mesh: cells, plain. slices.Chunk: a row of numbers, two by two. mesh: small functions; cells. mesh: knots; corners. mesh: a cell's corners. mesh: four knots mixed. mesh: four knots mixed, by their rows. mesh: where a place comes from. A region that draws its order, reads first and then goes one way, inside a round of a loop over an iterator. A region that draws its order inside a round of a loop over an iterator: shown by 'wpAny', or with a condition that is kept ('wpAnyH'). mesh: a knot appended; a round's step. -/
import Derived.Test.YtjbelhpgbcnlmaaGreatSamplePixelsZz1
import Derived.RangeFuncNested
import Derived.RangeFuncBound
import Derived.RangeFuncCalls
import Derived.RangeFuncLeaves
import Derived.Shelf.Abstract
import Derived.Shelf.RegionOpen
import Derived.WalkKit
import Derived.OwnWalkIn
import Derived.TacticsInMore
import Derived.LoopNIn
import Derived.LoopIn
import Derived.Test.YtjbelhpgbcnlmaaGreatSamplePixelsZz16
import Derived.Test.YtjbelhpgbcnlmaaGreatSamplePixelsZz12
import Derived.Test.YtjbelhpgbcnlmaaGreatSamplePixelsZz15
import Derived.Test.YtjbelhpgbcnlmaaGreatSamplePixelsZz11
import Derived.Test.YtjbelhpgbcnlmaaGreatSamplePixelsZz26
import Derived.StillTailTactics
import Derived.TacticsIn
import Derived.OrdersIn
import Derived.Deep.RegionHeld3
section
section
set_option linter.unusedVariables false
namespace Go.Proofs.YtjbelhpgbcnlmaaGreat
open Go.RowKit
def meQ (g n p d:Int):Int:=max 0 (min p (g*n*d))
def meI (g n p d:Int):Int:=min (meQ g n p d/(g*d)) (n-1)
def meT (g n p d:Int):Int:=meQ g n p d-meI g n p d*g*d
structure MeB (g n p d:Int):Prop where
 q:0≤meQ g n p d∧meQ g n p d≤g*n*d
 i:0≤meI g n p d∧meI g n p d≤n-1
 t:0≤meT g n p d∧meT g n p d≤g*d
theorem meB {g n p d:Int} (hg:1≤g) (hn:1≤n) (hd:1≤d):MeB g n p d:=by
 have hgd:1≤g*d:=by
  have:=Int.mul_le_mul hg hd (by omega) (by omega)
  simpa using this
 have hgn:0≤g*n*d:=Int.mul_nonneg (Int.mul_nonneg (by omega) (by omega)) (by omega)
 have hq:0≤meQ g n p d∧meQ g n p d≤g*n*d:=by unfold meQ;omega
 have e1:=Int.mul_ediv_add_emod (meQ g n p d) (g*d)
 have e2:=Int.emod_nonneg (meQ g n p d) (show g*d≠0 by omega)
 have e3:=Int.emod_lt_of_pos (meQ g n p d) (show 0<g*d by omega)
 have h0:0≤meQ g n p d/(g*d):=Int.ediv_nonneg hq.1 (by omega)
 have hi:0≤meI g n p d∧meI g n p d≤n-1:=by unfold meI;omega
 refine ⟨hq,hi,?_⟩
 have hm:meI g n p d*g*d=(g*d)*meI g n p d:=by grind
 unfold meT
 rw [hm]
 have hc:meI g n p d=meQ g n p d/(g*d)∨(meI g n p d=n-1∧n-1≤meQ g n p d/(g*d)):=by unfold meI;omega
 rcases hc with h|⟨h,h'⟩
 ·rw [h];omega
 ·rw [h]
  have h2:(g*d)*(n-1)≤(g*d)*(meQ g n p d/(g*d)):=Int.mul_le_mul_of_nonneg_left h' (by omega)
  have h3:g*n*d=(g*d)*(n-1)+g*d:=by grind
  omega
theorem me_step {g n p d i:Int} (hg:1≤g) (hd:1≤d) (h1:i+1<n) (h2:(i+1)*g*d≤meQ g n p d):i+1≤meI g n p d:=by
 have hgd:1≤g*d:=by
  have:=Int.mul_le_mul hg hd (by omega) (by omega)
  simpa using this
 have:i+1≤meQ g n p d/(g*d):=by
  rw [Int.le_ediv_iff_mul_le (by omega)]
  grind
 unfold meI;omega
theorem me_end {g n p d i:Int} (hg:1≤g) (hd:1≤d) (hi:i≤meI g n p d) (h:¬(i+1<n∧(i+1)*g*d≤meQ g n p d)):i=meI g n p d:=by
 have hgd:1≤g*d:=by
  have:=Int.mul_le_mul hg hd (by omega) (by omega)
  simpa using this
 rcases Int.lt_or_eq_of_le hi with h1|h1
 ·exfalso
  apply h
  have h2:i+1≤meQ g n p d/(g*d):=by unfold meI at h1;omega
  have h3:i+1<n:=by unfold meI at h1;omega
  refine ⟨h3,?_⟩
  rw [Int.le_ediv_iff_mul_le (by omega)] at h2
  grind
 ·exact h1
theorem me_all (w h s t:Int):(w-s)*(h-t)+s*(h-t)+(w-s)*t+s*t=w*h:=by grind
theorem div_bdn {p d:Int} (hd:1≤d) (h:0≤p):p/d≤p:=Int.ediv_le_self d h
end Go.Proofs.YtjbelhpgbcnlmaaGreat
end
section
set_option linter.unusedVariables false
namespace Go.Proofs.YtjbelhpgbcnlmaaGreat
open Go.RowKit Go.Shelf
attribute [local go_sem] Oper.semAt_some
abbrev CK:={ k:Nat // k≤100000 }
def mkK (k:Nat):CK:=if h:k≤100000 then ⟨k,h⟩ else ⟨0,by decide⟩
theorem mkK_eq {k:Nat} (h:k≤100000):(mkK k).1=k:=by unfold mkK;rw [dif_pos h]
def ckI (m:Nat) (x:CK):Nat:=if x.1<m then x.1 else 0
theorem ckI_lt {m:Nat} (h:1≤m) (x:CK):ckI m x<m:=by unfold ckI;split <;> omega
theorem ckI_mk {m k:Nat} (h:k<m) (hm:m≤100000):ckI m (mkK k)=k:=by unfold ckI;rw [mkK_eq (by omega),if_pos h]
def encK (b o m:Nat) (x:CK):Array Value:=#[.slice (some ⟨b,o+2*ckI m x,none⟩) 2 2]
theorem encK_mk {b o m k:Nat} (h:k<m) (hm:m≤100000):encK b o m (mkK k)=#[.slice (some ⟨b,o+2*k,none⟩) 2 2]:=by unfold encK;rw [ckI_mk h hm]
def upK:Nat→List CK
 | 0=>[]
 | k+1=>upK k++[mkK k]
theorem upK_len (k:Nat):(upK k).length=k:=by
 induction k with
 | zero=>rfl
 | succ k ih=>simp [upK,ih]
theorem upK_pre {i j:Nat} (h:i≤j):upK i <+: upK j:=by
 induction j with
 | zero=>obtain rfl:i=0:=by omega
         exact List.prefix_rfl
 | succ j ih =>
   rcases Nat.lt_or_ge i (j+1) with h'|h'
   ·exact (ih (by omega)).trans (List.prefix_append _ _)
   ·obtain rfl:i=j+1:=by omega
    exact List.prefix_rfl
def KpC (g h:Nat) (W W':World):Prop:=W'.heap[g]?=W.heap[g]?∧W'.heap[h]?=W.heap[h]?
theorem KpC.t {g h:Nat} {A B C:World} (x:KpC g h A B) (y:KpC g h B C):KpC g h A C:=⟨y.1.trans x.1,y.2.trans x.2⟩
theorem KpC.b {g h:Nat} {w:World} (hg:g<w.heap.size) (hh:h<w.heap.size) (W:World) (l:Nat) (o o':Obj) (hl:w.heap.size≤l) (_:W.heap[l]?=some o) (_:o.isCells=false) (_:o.isWalk=false):KpC g h W (W.putObj l o') :=
 ⟨World.putObj_heap_other (by omega),World.putObj_heap_other (by omega)⟩
set_option maxRecDepth 100000 in
set_option maxHeartbeats 2000000 in
theorem chunk1_in (F:Fence) (n:Nat) (h6:F.fn 294) (hro:F.round=none) (hn:1≤n) (l Bs Bn b o m cp:Nat) (hm:m≤100000) (hcp:2*m≤cp) (hcm:cp≤maxLen) (J Jx:List CK→World→Prop)
 (hY:∀ pre x W,J pre W→pre.length<m→YieldAt F (n-1) Tryz.prog l (encK b o m x) W fun e W' =>
   (e=.returned (.bool true)∧J (pre++[x]) W'∧KpC Bs Bn W W')∨(e=.returned (.bool false)∧Jx (pre++[x]) W'))
 (hJd:∀ pre W,J pre W→J pre W.drew) (W:World) (hS:Bk W Bs 30 #[.slice (some ⟨b,o,none⟩) (2*m) cp]) (hN:Bk W Bn 3 #[.int .i64 2]) (h0:J [] W) :
 CallsIn F n Tryz.prog 294 #[.func (.yield l) #[] #[],.pointer (some ⟨Bs,0,none⟩),.pointer (some ⟨Bn,0,none⟩)] W fun e W'=>(∃ v,e=.returned v) ∧
  ((∃ ys,ys=upK m∧J ys W')∨(∃ pre,pre <+: upK m∧Jx pre W')):=by
 refine callsIn_of_wp Tryz.func294 rfl h6 ?_ hro
 simp only [Tryz.ntmps294,List.size_toArray,List.length_cons,List.length_nil,Nat.reduceAdd,Nat.reduceSub,Array.replicate_succ,Array.replicate_zero,List.push_toArray,List.append_toArray,List.nil_append,List.cons_append]
 gi_wp2
 gi_loopw [4,5] (fun y _ wr=>∃ j:Nat,j≤m∧y=.int .i64 ((2*j:Nat):Int)∧Bk wr Bs 30 #[.slice (some ⟨b,o,none⟩) (2*m) cp]∧Bk wr Bn 3 #[.int .i64 2]∧J (upK j) wr) (fun y _ _=>2*m-(intOf y).toNat)
 case atStart =>
  exact ⟨0,by omega,by simp,hS,hN,h0⟩
 case round =>
  clear hS hN h0
  obtain ⟨j,hj,rfl,hS,hN,hJs⟩:=hrel
  have s0:=hS.cell1
  have n0:=hN.cell1
  by_cases hlt:j<m
  ·obtain ⟨z,hz⟩:∃ z:Int,z=((2*j:Nat):Int):=⟨_,rfl⟩
   obtain ⟨L,hLd⟩:∃ L:Nat,L=2*m:=⟨_,rfl⟩
   obtain ⟨q,hq⟩:∃ q:Nat,q=2*j:=⟨_,rfl⟩
   obtain ⟨r,hr⟩:∃ r:Nat,r=L-q:=⟨_,rfl⟩
   rw [← hq] at hz ⊢
   rw [← hLd] at s0 ⊢
   rw [← hz]
   have g0:(0:Int)≤z:=by omega
   have g1:z<(L:Int):=by omega
   have g1':z≤(L:Int):=by omega
   have g2:z≤z+2:=by omega
   have g3:z+2≤(cp:Int):=by omega
   have zt:z.toNat=q:=by omega
   have zt2:(z+2).toNat=q+2:=by omega
   have hne1:¬cp=q:=by omega
   have hs2':q+2-q=2:=by omega
   have w1:wrap64 (z+2)=z+2:=IntWalk.wrap64_in _ ⟨by omega,by simp only [maxLen] at hcm;omega⟩
   have hmn:¬((r:Nat):Int)<2:=by omega
   have hs1:∀ w':World,(Instr.slice 30 (.slice (some ⟨b,o,none⟩) L cp) (some (.int .i64 z)) none none).run Tryz.prog w'=.ok (.slice (some ⟨b,o+q,none⟩) r (cp-q)) w':=by
    intro w'
    rw [run_slice_l w' 30 _ _ _ Tryz.underlying30 _ _ g0 g1']
    simp [go_sem,zt,hne1,hr]
   have hs2:∀ w':World,(Instr.slice 30 (.slice (some ⟨b,o,none⟩) L cp) (some (.int .i64 z)) (some (.int .i64 (z+2))) (some (.int .i64 (z+2)))).run Tryz.prog w'=.ok (.slice (some ⟨b,o+q,none⟩) 2 2) w':=by
    intro w'
    rw [run_slice_lhm w' 30 _ _ _ Tryz.underlying30 _ _ _ _ _ _ g0 g2 (Int.le_refl _) g3]
    simp [go_sem,zt,zt2,hs2']
   have HZ:=Lib.hid hz
   have HQ:=Lib.hid hq
   have HL:=Lib.hid hLd
   have HR:=Lib.hid hr
   clear hz hq hLd hr zt zt2 hne1 hs2'
   gi_wp2
   gi_region
   all_goals
    obtain ⟨fn,tmps,assign,body,hy,hR⟩:=hY _ (mkK j) _ (hJd _ _ hJs) (by rw [upK_len];exact hlt)
    rw [encK_mk hlt hm,← HQ.out] at hy
    rw [show upK j++[mkK j]=upK (j+1) from rfl] at hR
    gi_wp2
    refine hR.mono ?_
    rintro e W3 (⟨rfl,hJ3,hk3⟩|⟨rfl,hJx3⟩)
    ·have hS3:Bk W3 Bs 30 #[.slice (some ⟨b,o,none⟩) (2*m) cp]:=hk3.1.trans hS
     have hN3:Bk W3 Bn 3 #[.int .i64 2]:=hk3.2.trans hN
     have n03:=hN3.cell1
     clear hs1 hs2 hy hR hY
     gi_wp2
     go_roundw
     case rel=>exact ⟨j+1,by omega,val_int (by have:=HZ.out;have:=HQ.out;omega),by rw [HL.out];exact hS3,hN3,hJ3⟩
     case measure=>have:=HZ.out;have:=HQ.out;simp [intOf];omega
    ·clear hs1 hs2 hy hR hY
     gi_wp2
     refine bodyPost_ret (results_none rfl _ _ _) rfl ?_
     exact ⟨⟨_,rfl⟩,.inr ⟨_,upK_pre (by omega),hJx3⟩⟩
  ·obtain rfl:j=m:=by omega
   gi_wp2
   go_end0
   first | exact ⟨⟨_,rfl⟩,.inl ⟨_,rfl,hJs⟩⟩|exact ⟨⟨_,rfl⟩,.inl hJs⟩
theorem abides_drew {β:Type} {B:Nat} {J:β→World→Prop} (h:AbidesFrom B J) (s:β) (W:World) (hs:J s W):J s W.drew :=
 h s W W.drew none hs (gb_drew (World.grownBy.refl W none)) (fun r e=>by cases e)
theorem chunk_stops (F:Fence) (n:Nat) (h6:F.fn 294) (hro:F.round=none) (hn:1≤n) (Bs Bn b o m cp:Nat) (hm:m≤100000) (hcp:2*m≤cp) (hcm:cp≤maxLen) (w:World)
 (hS:Bk w Bs 30 #[.slice (some ⟨b,o,none⟩) (2*m) cp]) (hN:Bk w Bn 3 #[.int .i64 2]) :
 SeqStopsK F n Tryz.prog 294 #[.pointer (some ⟨Bs,0,none⟩),.pointer (some ⟨Bn,0,none⟩)] (encK b o m) (KpC Bs Bn) (fun ys=>ys=upK m) (fun pre=>pre <+: upK m) m w:=fun l J Jx W hW hJ _ hY h0 =>
 chunk1_in F n h6 hro hn l Bs Bn b o m cp hm hcp hcm J Jx hY (fun pre W' h=>abides_drew hJ pre W' h) W (hS.below hW hS.lt) (hN.below hW hN.lt) h0
set_option maxHeartbeats 1000000 in
theorem chunk_any (A:Option Addr) (n cp:Nat) (w:World):Calls Tryz.prog 243 #[.slice A n cp,.int .i64 2] w fun e w'=>e=.returned (.func (.func 294) #[] #[.pointer (some ⟨w.heap.size,0,none⟩),.pointer (some ⟨w.heap.size+1,0,none⟩)])∧Bk w' w.heap.size 30 #[.slice A n cp]∧Bk w' (w.heap.size+1) 3 #[.int .i64 2]∧Below w.heap.size w w':=by
 have hL:=((Lie.start w).alloc #[.slice A n cp] 30).alloc #[.int .i64 2] 3
 simp only [World.size_alloc] at hL
 have k0:=hL.k 1 (by simp)
 have k1:=hL.k 0 (by simp)
 simp only [List.getElem_cons_zero,List.getElem_cons_succ] at k0 k1
 go_enter Tryz.func243,Tryz.ntmps243
 go_wp2_with fail
 go_returns
 exact ⟨rfl,k0,k1,hL.bel⟩
end Go.Proofs.YtjbelhpgbcnlmaaGreat
end
section
set_option linter.unusedVariables false
namespace Go.Proofs.YtjbelhpgbcnlmaaGreat
open Go.RowKit
attribute [local go_sem high] run_maxM run_minM
theorem mfrom_any (x m:Int) (w:World):Calls Tryz.prog 292 #[.int .i64 x,.int .i64 m] w fun e w'=>e=.returned (.bool (decide (1≤x∧x≤m)))∧w=w':=by
 by_cases h:1≤x
 all_goals
  go_enter Tryz.func292,Tryz.ntmps292
  go_wp2
  go_returns
  exact ⟨ret_bool (by simp <;> omega),rfl⟩
theorem rmfrom_any (x m:Int) (w:World):Calls Tryz.prog 186 #[.int .i64 x,.int .i64 m] w fun e w'=>e=.returned (.bool (decide (1≤x∧x≤m)))∧w=w':=by
 by_cases h:1≤x
 all_goals
  go_enter Tryz.func186,Tryz.ntmps186
  go_wp2
  go_returns
  exact ⟨ret_bool (by simp <;> omega),rfl⟩
def meFit (gx gy nx ny:Int):Bool:=decide ((1≤gx∧gx≤1024)∧(1≤gy∧gy≤1024)∧(1≤nx∧nx≤64)∧(1≤ny∧ny≤64))
theorem meFit_iff {gx gy nx ny:Int}:meFit gx gy nx ny=true ↔ ((1≤gx∧gx≤1024)∧(1≤gy∧gy≤1024)∧(1≤nx∧nx≤64)∧(1≤ny∧ny≤64)):=by unfold meFit;exact decide_eq_true_iff
theorem fit_cases (gx gy nx ny:Int):(decide (1≤gx∧gx≤1024)=false∧Hid (meFit gx gy nx ny=false))∨(decide (1≤gx∧gx≤1024)=true∧decide (1≤gy∧gy≤1024)=false∧Hid (meFit gx gy nx ny=false))∨(decide (1≤gx∧gx≤1024)=true∧decide (1≤gy∧gy≤1024)=true∧decide (1≤nx∧nx≤64)=false∧Hid (meFit gx gy nx ny=false))∨(decide (1≤gx∧gx≤1024)=true∧decide (1≤gy∧gy≤1024)=true∧decide (1≤nx∧nx≤64)=true∧Hid (meFit gx gy nx ny=decide (1≤ny∧ny≤64))):=by
 unfold meFit Hid
 by_cases h1:(1≤gx∧gx≤1024) <;> by_cases h2:(1≤gy∧gy≤1024) <;> by_cases h3:(1≤nx∧nx≤64) <;> simp [h1,h2,h3]
abbrev axA (g n:Int):Array Value:=#[.int .i64 g,.int .i64 n]
set_option maxHeartbeats 2000000 in
theorem mfits_any (gx gy nx ny:Int) (w:World):Calls Tryz.prog 240 #[.agg (axA gx nx),.agg (axA gy ny)] w fun e w'=>e=.returned (.bool (meFit gx gy nx ny))∧Below w.heap.size w w':=by
 have hb:=((Lie.start w).alloc (axA gx nx) 299).alloc (axA gy ny) 299
 have hb:=hb.bel
 have h1:=fun w'=>mfrom_any gx 1024 w'
 have h2:=fun w'=>mfrom_any gy 1024 w'
 have h3:=fun w'=>mfrom_any nx 64 w'
 have h4:=fun w'=>mfrom_any ny 64 w'
 rcases fit_cases gx gy nx ny with ⟨e1,HE⟩|⟨e1,e2,HE⟩|⟨e1,e2,e3,HE⟩|⟨e1,e2,e3,HE⟩
 all_goals
  (try rw [e1] at h1)
  (try rw [e2] at h2)
  (try rw [e3] at h3)
  (try clear e1)
  (try clear e2)
  (try clear e3)
  go_enter Tryz.func240,Tryz.ntmps240
  go_wp2_with (first
   | (go_at_call 292;(with_reducible refine (h1 _).mono ?_);rintro e w' ⟨rfl,rfl⟩)
   | (go_at_call 292;(with_reducible refine (h2 _).mono ?_);rintro e w' ⟨rfl,rfl⟩)
   | (go_at_call 292;(with_reducible refine (h3 _).mono ?_);rintro e w' ⟨rfl,rfl⟩)
   | (go_at_call 292;(with_reducible refine (h4 _).mono ?_);rintro e w' ⟨rfl,rfl⟩))
  go_returns
  exact ⟨by rw [HE.out];first | rfl|exact ret_bool (by simp),hb⟩
set_option maxHeartbeats 2000000 in
theorem rmfits_any (gx gy nx ny:Int) (w:World):Calls Tryz.prog 110 #[.int .i64 gx,.int .i64 gy,.int .i64 nx,.int .i64 ny] w fun e w'=>e=.returned (.bool (meFit gx gy nx ny))∧w=w':=by
 have h1:=fun w'=>rmfrom_any gx 1024 w'
 have h2:=fun w'=>rmfrom_any gy 1024 w'
 have h3:=fun w'=>rmfrom_any nx 64 w'
 have h4:=fun w'=>rmfrom_any ny 64 w'
 rcases fit_cases gx gy nx ny with ⟨e1,HE⟩|⟨e1,e2,HE⟩|⟨e1,e2,e3,HE⟩|⟨e1,e2,e3,HE⟩
 all_goals
  (try rw [e1] at h1)
  (try rw [e2] at h2)
  (try rw [e3] at h3)
  (try clear e1)
  (try clear e2)
  (try clear e3)
  go_enter Tryz.func110,Tryz.ntmps110
  go_wp2_with (first
   | (go_at_call 186;(with_reducible refine (h1 _).mono ?_);rintro e w' ⟨rfl,rfl⟩)
   | (go_at_call 186;(with_reducible refine (h2 _).mono ?_);rintro e w' ⟨rfl,rfl⟩)
   | (go_at_call 186;(with_reducible refine (h3 _).mono ?_);rintro e w' ⟨rfl,rfl⟩)
   | (go_at_call 186;(with_reducible refine (h4 _).mono ?_);rintro e w' ⟨rfl,rfl⟩))
  go_returns
  exact ⟨by rw [HE.out];first | rfl|exact ret_bool (by simp),rfl⟩
theorem me_room {g n d:Int} (hg:1≤g∧g≤1024) (hn:1≤n∧n≤64) (hd:1≤d∧d≤16):(1≤g*n∧g*n≤65536)∧(1≤g*n*d∧g*n*d≤1048576)∧(1≤g*d∧g*d≤16384):=by
 have a1:1*1≤g*n:=Int.mul_le_mul hg.1 hn.1 (by omega) (by omega)
 have a2:g*n≤1024*64:=Int.mul_le_mul hg.2 hn.2 (by omega) (by omega)
 have a3:1*1≤g*d:=Int.mul_le_mul hg.1 hd.1 (by omega) (by omega)
 have a4:g*d≤1024*16:=Int.mul_le_mul hg.2 hd.2 (by omega) (by omega)
 have a5:1*1≤g*n*d:=Int.mul_le_mul (by omega) hd.1 (by omega) (by omega)
 have a6:g*n*d≤65536*16:=Int.mul_le_mul (by omega) hd.2 (by omega) (by omega)
 omega
set_option maxRecDepth 100000 in
set_option maxHeartbeats 4000000 in
theorem mcell_any (g n p d:Int) (w:World) (hg:1≤g∧g≤1024) (hn:1≤n∧n≤64) (hd:1≤d∧d≤16) (hp:-4194304≤p∧p≤4194304) :
 Calls Tryz.prog 295 #[.agg (axA g n),.int .i64 p,.int .i64 d] w fun e w'=>e=.returned (.tuple #[.int .i64 (meI g n p d),.int .i64 (meT g n p d)])∧Below w.heap.size w w':=by
 have hL:=(Lie.start w).alloc (axA g n) 299
 have hK:Bk (w.alloc (.cells (axA g n) 299)) w.heap.size 299 (axA g n):=hL.k 0 (by simp)
 obtain ⟨⟨r0,r1⟩,⟨r2,r3⟩,r4,r5⟩:=me_room hg hn hd
 obtain ⟨⟨q0,q1⟩,⟨i0,i1⟩,t0,t1⟩:=meB (p:=p) hg.1 hn.1 hd.1
 have i2:meI g n p d*g≤63*1024:=Int.mul_le_mul (by omega) hg.2 (by omega) (by omega)
 have i3:0≤meI g n p d*g:=Int.mul_nonneg i0 (by omega)
 have hI:Hid (meI g n p d=min (meQ g n p d/(g*d)) (n-1)):=rfl
 have hT:Hid (meT g n p d=meQ g n p d-meI g n p d*g*d):=rfl
 have hQ:Hid (meQ g n p d=max 0 (min p (g*n*d))):=rfl
 have hDv:Hid (Int.tdiv (meQ g n p d) (g*d)=meQ g n p d/(g*d)):=Int.tdiv_eq_ediv_of_nonneg q0
 have i4:meI g n p d*g*d≤64512*16:=Int.mul_le_mul (by omega) hd.2 (by omega) (by omega)
 have i5:0≤meI g n p d*g*d:=Int.mul_nonneg i3 (by omega)
 have dv0:0≤meQ g n p d/(g*d):=Int.ediv_nonneg q0 (by omega)
 have dv1:=(div_bdn (p:=meQ g n p d) (d:=g*d) (by omega) q0)
 have k1:wrap64 (g*n)=g*n:=IntWalk.wrap64_in _ ⟨by omega,by omega⟩
 have k2:wrap64 (g*n*d)=g*n*d:=IntWalk.wrap64_in _ ⟨by omega,by omega⟩
 have k3:IntKind.i64.wrap (g*d)=g*d:=IntWalk.i64_in _ ⟨by omega,by omega⟩
 have k4:IntKind.i64.wrap (n-1)=n-1:=IntWalk.i64_in _ ⟨by omega,by omega⟩
 have k5:IntKind.i64.wrap (meI g n p d*g)=meI g n p d*g:=IntWalk.i64_in _ ⟨by omega,by omega⟩
 have k6:IntKind.i64.wrap (meI g n p d*g*d)=meI g n p d*g*d:=IntWalk.i64_in _ ⟨by omega,by omega⟩
 have k7:IntKind.i64.wrap (meQ g n p d-meI g n p d*g*d)=meQ g n p d-meI g n p d*g*d:=IntWalk.i64_in _ ⟨by omega,by omega⟩
 have k8:IntKind.i64.wrap (Int.tdiv (meQ g n p d) (g*d))=meQ g n p d/(g*d):=by rw [hDv.out];exact IntWalk.i64_in _ ⟨by omega,by omega⟩
 have b0:(g*d==0)=false:=by simp;omega
 have b1:(g*d==-1)=false:=by simp;omega
 clear i1 i2 i3 i4 i5 t0 t1 q1 dv0 dv1
 generalize hq:meQ g n p d=Q at *
 generalize hi:meI g n p d=I at *
 generalize hdv:Q/(g*d)=D at *
 generalize meT g n p d=T at *
 clear hq hi hdv
 have kQ:max 0 (min p (g*n*d))=Q:=hQ.out.symm
 have kI:min D (n-1)=I:=hI.out.symm
 have HT:=Lib.hid (hT.out)
 obtain ⟨c0,c1⟩:=hK.cell2
 clear hI hT hQ hDv hK
 go_enter Tryz.func295,Tryz.ntmps295
 go_wp2_with fail
 generalize hw1:w.alloc (.cells (axA g n) 299)=w1 at *
 clear hw1
 have hbw:=hL.bel
 clear hL
 go_quiet (fail)
 go_wp2_with fail
 go_quiet (fail)
 go_wp2_with fail
 go_returns
 exact ⟨by rw [HT.out];rfl,below_drewN (below_drewN hbw _) _⟩
end Go.Proofs.YtjbelhpgbcnlmaaGreat
end
section
set_option linter.unusedVariables false
namespace Go.Proofs.YtjbelhpgbcnlmaaGreat
open Go.RowKit
attribute [local go_sem high] run_maxM run_minM
abbrev msA (gx nx gy ny:Int) (A:Option Addr) (K cp:Nat):Array Value:=#[.int .i64 gx,.int .i64 nx,.int .i64 gy,.int .i64 ny,.slice A K cp]
theorem kn_size:(Tryz.prog.info? 309).map (·.size)=some 2:=by kernel_rfl
set_option maxRecDepth 100000 in
set_option maxHeartbeats 4000000 in
theorem mat_at (gx nx gy ny i k kx ky:Int) (b o K cp:Nat) (g:Nat) (w:World) (hK:Bk w g 302 (msA gx nx gy ny (some ⟨b,o,none⟩) K cp)) (hi:0≤i∧i≤nx) (hk:0≤k∧k≤ny) (hn:1≤nx∧nx≤64) (hm:1≤ny∧ny≤64) (q:Nat) (hq:k*(nx+1)+i=(q:Int)) (hqK:q<K) (hb:b<w.heap.size)
 (hx:w.cell? ⟨b,o+q*2,none⟩=some (.int .i64 kx)) (hy:w.cell? ⟨b,o+q*2+1,none⟩=some (.int .i64 ky)) :
 Calls Tryz.prog 296 #[.pointer (some ⟨g,0,none⟩),.int .i64 i,.int .i64 k] w fun e w'=>e=.returned (.agg #[.int .i64 kx,.int .i64 ky])∧Below w.heap.size w w':=by
 have hL:=(Lie.start w).alloc #[.int .i64 0,.int .i64 0] 309
 have k6:Bk (w.alloc (.cells #[.int .i64 0,.int .i64 0] 309)) w.heap.size 309 #[.int .i64 0,.int .i64 0]:=hL.k 0 (by simp)
 have hKa:=hK.alloc (.cells #[.int .i64 0,.int .i64 0] 309)
 have hxa:=(World.cell?_alloc_lt w (.cells #[.int .i64 0,.int .i64 0] 309) ⟨b,o+q*2,none⟩ hb).trans hx
 have hya:=(World.cell?_alloc_lt w (.cells #[.int .i64 0,.int .i64 0] 309) ⟨b,o+q*2+1,none⟩ hb).trans hy
 have m0:0≤k*(nx+1):=Int.mul_nonneg hk.1 (by omega)
 have m1:k*(nx+1)≤64*65:=Int.mul_le_mul (by omega) (by omega) (by omega) (by omega)
 have e1:IntKind.i64.wrap (nx+1)=nx+1:=IntWalk.i64_in _ ⟨by omega,by omega⟩
 have e2:IntKind.i64.wrap (k*(nx+1))=k*(nx+1):=IntWalk.i64_in _ ⟨by omega,by omega⟩
 obtain ⟨z,hz⟩:∃ z:Int,k*(nx+1)+i=z:=⟨_,rfl⟩
 have e3:IntKind.i64.wrap (k*(nx+1)+i)=z:=by rw [← hz];exact IntWalk.i64_in _ ⟨by omega,by omega⟩
 have z0:0≤z:=by omega
 have z1:z<(K:Int):=by omega
 have zt:z.toNat=q:=by omega
 clear m0 m1 hz hq hx hy hK
 go_enter Tryz.func296,Tryz.ntmps296
 go_wp2_with fail
 generalize hw1:w.alloc (.cells #[.int .i64 0,.int .i64 0] 309)=w1 at *
 clear hw1
 obtain ⟨d0,d1,d2,d3,d4⟩:=hKa.cell5
 have r1:=fun (n:Nat) (os:Array Obj)=>cell_regrown d1 n os
 have r4:=fun (n:Nat) (os:Array Obj)=>cell_regrown d4 n os
 have s0:=fun (n:Nat) (os:Array Obj)=>cell_regrown hxa n os
 have s1:=fun (n:Nat) (os:Array Obj)=>cell_regrown hya n os
 refine wp_region_quiet_tail 16 (by kernel_rfl) (by kernel_rfl) ?_
 simp only [List.take_succ_cons,List.take_zero,List.drop_succ_cons,List.drop_zero]
 repeat (first
  | go_big_quiet_step (fail)
  | quiet_step (fail))
 refine wpQuiet_nil ?_
 intro _ hw'
 obtain ⟨⟨d,os⟩,hw''⟩:=hw'
 subst hw''
 have hbx:=below_regrown w1 d os
 generalize Go.Sort.grow (redrawn w1 d) os=wx at *
 have hLx:=hL.nx hbx
 have k6x:=k6.nx hbx
 clear r1 r4 s0 s1 d0 d1 d2 d3 d4
 go_wp2_with (refine stB (ty:=309) (cells:=#[.int .i64 kx,.int .i64 ky]) rfl _ _ rfl k6x rfl rfl kn_size rfl (by simp [Value.oneCell']) ?_;intro w2 k62 hg2 hs2)
 refine bodyPost_ret (res_cell rfl k62 rfl Tryz.underlying309 rfl kn_size) rfl ?_
 exact ⟨rfl,below_of_gb hLx.bel hg2 (by omega) hLx.sz⟩
structure MeF (l:List Int):Prop where
 gx:1≤cf l 0∧cf l 0≤1024
 gy:1≤cf l 1∧cf l 1≤1024
 nx:1≤cf l 2∧cf l 2≤64
 ny:1≤cf l 3∧cf l 3≤64
 far:∀ j,4≤j→-2147483648≤cf l j∧cf l j≤2147483648
def meK (l:List Int):Nat:=((cf l 2+1)*(cf l 3+1)).toNat
def knJ (l:List Int) (i k:Int):Nat:=(k*(cf l 2+1)+i).toNat
def knX (l:List Int) (i k:Int):Int:=cf l (4+knJ l i k*2)
def knY (l:List Int) (i k:Int):Int:=cf l (4+knJ l i k*2+1)
theorem knJ_eq {l:List Int} (h:MeF l) {i k:Int} (hi:0≤i∧i≤cf l 2) (hk:0≤k∧k≤cf l 3):k*(cf l 2+1)+i=(knJ l i k:Int)∧knJ l i k<meK l∧meK l≤4225:=by
 have h1:=h.nx
 have h2:=h.ny
 have m0:0≤k*(cf l 2+1):=Int.mul_nonneg hk.1 (by omega)
 have m1:k*(cf l 2+1)≤cf l 3*(cf l 2+1):=Int.mul_le_mul_of_nonneg_right hk.2 (by omega)
 have e:(cf l 2+1)*(cf l 3+1)=cf l 3*(cf l 2+1)+(cf l 2+1):=by rw [Int.mul_add,Int.mul_comm];omega
 have m2:(cf l 2+1)*(cf l 3+1)≤65*65:=Int.mul_le_mul (by omega) (by omega) (by omega) (by omega)
 unfold knJ meK
 omega
structure MeW (l:List Int) (w:World) (g b o cp:Nat):Prop where
 map:Bk w g 302 (msA (cf l 0) (cf l 2) (cf l 1) (cf l 3) (some ⟨b,o,none⟩) (meK l) cp)
 lt:b<w.heap.size
 kn:∀ j,j<meK l*2→w.cell? ⟨b,o+j,none⟩=some (.int .i64 (cf l (4+j)))
theorem MeW.nx {l:List Int} {w w':World} {g b o cp:Nat} (h:MeW l w g b o cp) (hb:Below w.heap.size w w'):MeW l w' g b o cp :=
 ⟨h.map.nx hb,Nat.lt_of_lt_of_le h.lt hb.size,fun j hj=>(hb.cell (p:=⟨b,o+j,none⟩) h.lt).trans (h.kn j hj)⟩
theorem MeW.same {l:List Int} {w w':World} {g b o cp:Nat} (h:MeW l w g b o cp) (e:w'.heap[g]?=w.heap[g]?) (e':w'.heap[b]?=w.heap[b]?) (hs:w.heap.size≤w'.heap.size):MeW l w' g b o cp :=
 ⟨e.trans h.map,Nat.lt_of_lt_of_le h.lt hs,fun j hj=>(World.cell?_of_block e').trans (h.kn j hj)⟩
theorem mknot_any (l:List Int) (g b o cp:Nat) (i k:Int) (w:World) (hF:MeF l) (h:MeW l w g b o cp) (hi:0≤i∧i≤cf l 2) (hk:0≤k∧k≤cf l 3) :
 Calls Tryz.prog 296 #[.pointer (some ⟨g,0,none⟩),.int .i64 i,.int .i64 k] w fun e w'=>e=.returned (.agg #[.int .i64 (knX l i k),.int .i64 (knY l i k)])∧Below w.heap.size w w':=by
 obtain ⟨h1,h2,_⟩:=knJ_eq hF hi hk
 exact mat_at (cf l 0) (cf l 2) (cf l 1) (cf l 3) i k _ _ b o (meK l) cp g w h.map hi hk hF.nx hF.ny (knJ l i k) h1 h2 h.lt (h.kn (knJ l i k*2) (by omega)) (h.kn (knJ l i k*2+1) (by omega))
end Go.Proofs.YtjbelhpgbcnlmaaGreat
end
section
set_option linter.unusedVariables false
namespace Go.Proofs.YtjbelhpgbcnlmaaGreat
open Go.RowKit
attribute [local go_sem high] run_maxM run_minM
abbrev coA (x0 y0 b0 x1 y1 b1 x2 y2 b2 x3 y3 b3:Int):Array Value:=#[.int .i64 x0,.int .i64 y0,.int .i64 b0,.int .i64 x1,.int .i64 y1,.int .i64 b1,.int .i64 x2,.int .i64 y2,.int .i64 b2,.int .i64 x3,.int .i64 y3,.int .i64 b3]
theorem co_size:(Tryz.prog.info? 312).map (·.size)=some 12:=by kernel_rfl
set_option maxRecDepth 100000 in
set_option maxHeartbeats 8000000 in
theorem mcorners_any (l:List Int) (g b o cp:Nat) (px py d:Int) (w:World) (hF:MeF l) (h:MeW l w g b o cp) (hd:1≤d∧d≤16) (hx:-1048576≤px∧px≤1048576) (hy:-1048576≤py∧py≤1048576) (I K S T W H:Int)
 (eI:meI (cf l 0) (cf l 2) px d=I) (eS:meT (cf l 0) (cf l 2) px d=S) (eK:meI (cf l 1) (cf l 3) py d=K) (eT:meT (cf l 1) (cf l 3) py d=T) (eW:cf l 0*d=W) (eH:cf l 1*d=H) :
 Calls Tryz.prog 244 #[.pointer (some ⟨g,0,none⟩),.int .i64 px,.int .i64 py,.int .i64 d] w fun e w' =>
  e=.returned (.agg (coA (knX l I K) (knY l I K) ((W-S)*(H-T)) (knX l (I+1) K) (knY l (I+1) K) (S*(H-T)) (knX l I (K+1)) (knY l I (K+1)) ((W-S)*T) (knX l (I+1) (K+1)) (knY l (I+1) (K+1)) (S*T)))∧Below w.heap.size w w':=by
 have bX:=meB (p:=px) hF.gx.1 hF.nx.1 hd.1
 have bY:=meB (p:=py) hF.gy.1 hF.ny.1 hd.1
 have rX:=me_room hF.gx hF.nx hd
 have rY:=me_room hF.gy hF.ny hd
 have hC1:=fun w'=>mcell_any (cf l 0) (cf l 2) px d w' hF.gx hF.nx hd (by omega)
 have hC2:=fun w'=>mcell_any (cf l 1) (cf l 3) py d w' hF.gy hF.ny hd (by omega)
 obtain ⟨_,⟨i0,i1⟩,s0,s1⟩:=bX
 obtain ⟨_,⟨k0,k1⟩,t0,t1⟩:=bY
 obtain ⟨_,_,w0,w1⟩:=rX
 obtain ⟨_,_,h0,h1⟩:=rY
 rw [eI] at i0 i1 hC1
 rw [eS] at s0 s1 hC1
 rw [eK] at k0 k1 hC2
 rw [eT] at t0 t1 hC2
 rw [eW] at s1 w0 w1
 rw [eH] at t1 h0 h1
 have e1:IntKind.i64.wrap (cf l 0*d)=W:=by rw [eW];exact IntWalk.i64_in _ ⟨by omega,by omega⟩
 have e2:IntKind.i64.wrap (cf l 1*d)=H:=by rw [eH];exact IntWalk.i64_in _ ⟨by omega,by omega⟩
 clear eI eS eK eT eW eH
 have hK1:=fun w' (hb:MeW l w' g b o cp)=>mknot_any l g b o cp I K w' hF hb ⟨i0,by omega⟩ ⟨k0,by omega⟩
 have hK2:=fun w' (hb:MeW l w' g b o cp)=>mknot_any l g b o cp (I+1) K w' hF hb ⟨by omega,by omega⟩ ⟨k0,by omega⟩
 have hK3:=fun w' (hb:MeW l w' g b o cp)=>mknot_any l g b o cp I (K+1) w' hF hb ⟨i0,by omega⟩ ⟨by omega,by omega⟩
 have hK4:=fun w' (hb:MeW l w' g b o cp)=>mknot_any l g b o cp (I+1) (K+1) w' hF hb ⟨by omega,by omega⟩ ⟨by omega,by omega⟩
 have n1:=hF.nx
 have n2:=hF.ny
 have c1:wrap64 (I+1)=I+1:=IntWalk.wrap64_in _ ⟨by omega,by omega⟩
 have c2:wrap64 (K+1)=K+1:=IntWalk.wrap64_in _ ⟨by omega,by omega⟩
 have c3:wrap64 (W-S)=W-S:=IntWalk.wrap64_in _ ⟨by omega,by omega⟩
 have c4:wrap64 (H-T)=H-T:=IntWalk.wrap64_in _ ⟨by omega,by omega⟩
 have p1:=mulbd (a:=W-S) (b:=H-T) (A:=16384) (B:=16384) (by omega) (by omega) (by omega) (by omega)
 have p2:=mulbd (a:=S) (b:=H-T) (A:=16384) (B:=16384) (by omega) (by omega) (by omega) (by omega)
 have p3:=mulbd (a:=W-S) (b:=T) (A:=16384) (B:=16384) (by omega) (by omega) (by omega) (by omega)
 have p4:=mulbd (a:=S) (b:=T) (A:=16384) (B:=16384) (by omega) (by omega) (by omega) (by omega)
 have c5:wrap64 ((W-S)*(H-T))=(W-S)*(H-T):=IntWalk.wrap64_in _ ⟨by omega,by omega⟩
 have c6:wrap64 (S*(H-T))=S*(H-T):=IntWalk.wrap64_in _ ⟨by omega,by omega⟩
 have c7:wrap64 ((W-S)*T)=(W-S)*T:=IntWalk.wrap64_in _ ⟨by omega,by omega⟩
 have c8:wrap64 (S*T)=S*T:=IntWalk.wrap64_in _ ⟨by omega,by omega⟩
 clear i0 i1 s0 s1 k0 k1 t0 t1 w0 w1 h0 h1 p1 p2 p3 p4 n1 n2 hF hd hx hy
 have hL:=(Lie.start w).alloc (coA 0 0 0 0 0 0 0 0 0 0 0 0) 312
 have k8:Bk (w.alloc (.cells (coA 0 0 0 0 0 0 0 0 0 0 0 0) 312)) w.heap.size 312 (coA 0 0 0 0 0 0 0 0 0 0 0 0):=hL.k 0 (by simp)
 have hM:=h.nx ((Below.refl w.heap.size w).alloc (Nat.le_refl _) (.cells (coA 0 0 0 0 0 0 0 0 0 0 0 0) 312))
 clear h
 obtain ⟨d0,d1,d2,d3,d4⟩:=hM.map.cell5
 clear d4
 go_enter Tryz.func244,Tryz.ntmps244
 go_wp2_with (first
  | (go_at_call 295;(with_reducible refine (hC1 _).mono ?_);rintro e w1 ⟨rfl,hb1⟩;have hL1:=hL.nx hb1;have hM1:=hM.nx hb1;have q1:=hM1.map.cell5;clear d0 d1 d2 d3;obtain ⟨d0,d1,d2,d3,d4⟩:=q1;clear d4)
  | (go_at_call 295;(with_reducible refine (hC2 _).mono ?_);rintro e w2 ⟨rfl,hb2⟩;have hL2:=hL1.nx hb2;have hM2:=hM1.nx hb2;have q2:=hM2.map.cell5;clear d0 d1 d2 d3;obtain ⟨d0,d1,d2,d3,d4⟩:=q2;clear d4))
 go_quiet (fail)
 have hM3:MeW l (w2.drewN nq) g b o cp:=hM2.same rfl rfl (Nat.le_refl _)
 have hL3:=hL2.drewN nq
 have k83:=((k8.nx hb1).nx hb2).drewN nq
 generalize w2.drewN nq=w3 at *
 clear d0 d1 d2 d3 hC1 hC2 hL hM hL1 hM1 hL2 hM2 hb1 hb2 k8 e1 e2
 go_wp2_with (first
  | (go_at_call 296;(with_reducible refine (hK1 _ hM3).mono ?_);rintro e w4 ⟨rfl,hb4⟩;have hL4:=hL3.nx hb4;have hM4:=hM3.nx hb4;have k84:=k83.nx hb4)
  | (go_at_call 296;(with_reducible refine (hK2 _ hM4).mono ?_);rintro e w5 ⟨rfl,hb5⟩;have hL5:=hL4.nx hb5;have hM5:=hM4.nx hb5;have k85:=k84.nx hb5)
  | (go_at_call 296;(with_reducible refine (hK3 _ hM5).mono ?_);rintro e w6 ⟨rfl,hb6⟩;have hL6:=hL5.nx hb6;have hM6:=hM5.nx hb6;have k86:=k85.nx hb6)
  | (go_at_call 296;(with_reducible refine (hK4 _ hM6).mono ?_);rintro e w7 ⟨rfl,hb7⟩;have hL7:=hL6.nx hb7;have k87:=k86.nx hb7)
  | (refine stB (ty:=312) (cells:=coA (knX l I K) (knY l I K) ((W-S)*(H-T)) (knX l (I+1) K) (knY l (I+1) K) (S*(H-T)) (knX l I (K+1)) (knY l I (K+1)) ((W-S)*T) (knX l (I+1) (K+1)) (knY l (I+1) (K+1)) (S*T)) rfl _ _ rfl k87 rfl rfl co_size rfl (by simp [Value.oneCell']) ?_;intro w8 k88 hg8 hs8))
 refine bodyPost_ret (res_cell rfl k88 rfl Tryz.underlying312 rfl co_size) rfl ?_
 exact ⟨rfl,below_of_gb hL7.bel hg8 (by omega) hL7.sz⟩
end Go.Proofs.YtjbelhpgbcnlmaaGreat
end
section
set_option linter.unusedVariables false
namespace Go.Proofs.YtjbelhpgbcnlmaaGreat
open Go.RowKit
attribute [local go_sem high] run_maxM run_minM
def mxs (v b:Nat→Int):Nat→Int
 | 0=>0
 | j+1=>mxs v b j+b j*v j
def mxa (b:Nat→Int):Nat→Int
 | 0=>0
 | j+1=>mxa b j+b j
theorem mx_bd {v b:Nat→Int} (hb:∀ j,0≤b j∧b j≤268435456) (hv:∀ j,-2147483648≤v j∧v j≤2147483648) (j:Nat) (hj:j≤4):(-2305843009213693952≤mxs v b j∧mxs v b j≤2305843009213693952)∧(0≤mxa b j∧mxa b j≤1073741824)∧(-576460752303423488≤b j*v j∧b j*v j≤576460752303423488):=by
 have hp:∀ i,-576460752303423488≤b i*v i∧b i*v i≤576460752303423488:=fun i=>by
  have:=mulbd (a:=b i) (b:=v i) (A:=268435456) (B:=2147483648) (by have:=hb i;omega) (by have:=hb i;omega) (hv i).1 (hv i).2
  omega
 refine ⟨?_,?_,hp j⟩
 ·have h0:=hp 0;have h1:=hp 1;have h2:=hp 2;have h3:=hp 3
  have:j=0∨j=1∨j=2∨j=3∨j=4:=by omega
  rcases this with rfl|rfl|rfl|rfl|rfl <;> simp only [mxs] <;> omega
 ·have h0:=hb 0;have h1:=hb 1;have h2:=hb 2;have h3:=hb 3
  have:j=0∨j=1∨j=2∨j=3∨j=4:=by omega
  rcases this with rfl|rfl|rfl|rfl|rfl <;> simp only [mxa] <;> omega
abbrev crA (x y b:Int):Array Value:=#[.int .i64 x,.int .i64 y,.int .i64 b]
theorem cr_size:(Tryz.prog.info? 311).map (·.size)=some 3:=by kernel_rfl
theorem mcol_any (x y:Int) (w:World):Calls Tryz.prog 246 #[.agg #[.int .i64 x,.int .i64 y]] w fun e w'=>e=.returned (.int .i64 x)∧Below w.heap.size w w':=by
 have hb:=(Below.refl w.heap.size w).alloc (Nat.le_refl _) (.cells #[.int .i64 x,.int .i64 y] 309)
 go_enter Tryz.func246,Tryz.ntmps246
 go_wp2
 go_returns
 exact ⟨rfl,hb⟩
theorem mrow_any (x y:Int) (w:World):Calls Tryz.prog 247 #[.agg #[.int .i64 x,.int .i64 y]] w fun e w'=>e=.returned (.int .i64 y)∧Below w.heap.size w w':=by
 have hb:=(Below.refl w.heap.size w).alloc (Nat.le_refl _) (.cells #[.int .i64 x,.int .i64 y] 309)
 go_enter Tryz.func247,Tryz.ntmps247
 go_wp2
 go_returns
 exact ⟨rfl,hb⟩
set_option maxRecDepth 100000 in
set_option maxHeartbeats 16000000 in
theorem mixcol_any (x y b:Nat→Int) (w:World) (hb:∀ j,0≤b j∧b j≤268435456) (hv:∀ j,-2147483648≤x j∧x j≤2147483648) (h1:1≤mxa b 4) :
 Calls Tryz.prog 245 #[.agg (coA (x 0) (y 0) (b 0) (x 1) (y 1) (b 1) (x 2) (y 2) (b 2) (x 3) (y 3) (b 3)),.func (.func 246) #[] #[]] w fun e w'=>e=.returned (.int .i64 (cutF (fq (mxs x b 4) (mxa b 4))))∧Below w.heap.size w w':=by
 have hL:=((Lie.start w).alloc (coA (x 0) (y 0) (b 0) (x 1) (y 1) (b 1) (x 2) (y 2) (b 2) (x 3) (y 3) (b 3)) 312).alloc (wdA 0) 289
 simp only [World.size_alloc] at hL
 have k2:=hL.k 1 (by simp)
 have k5:=hL.k 0 (by simp)
 simp only [List.getElem_cons_zero,List.getElem_cons_succ] at k2 k5
 rw [wd0] at hL k5
 have i0:∀ w':World,(Instr.index 312 (.agg (coA (x 0) (y 0) (b 0) (x 1) (y 1) (b 1) (x 2) (y 2) (b 2) (x 3) (y 3) (b 3))) (.int .i64 0)).run Tryz.prog w'=.ok (.agg (crA (x 0) (y 0) (b 0))) w':=fun w'=>by kernel_rfl
 have i1:∀ w':World,(Instr.index 312 (.agg (coA (x 0) (y 0) (b 0) (x 1) (y 1) (b 1) (x 2) (y 2) (b 2) (x 3) (y 3) (b 3))) (.int .i64 1)).run Tryz.prog w'=.ok (.agg (crA (x 1) (y 1) (b 1))) w':=fun w'=>by kernel_rfl
 have i2:∀ w':World,(Instr.index 312 (.agg (coA (x 0) (y 0) (b 0) (x 1) (y 1) (b 1) (x 2) (y 2) (b 2) (x 3) (y 3) (b 3))) (.int .i64 2)).run Tryz.prog w'=.ok (.agg (crA (x 2) (y 2) (b 2))) w':=fun w'=>by kernel_rfl
 have i3:∀ w':World,(Instr.index 312 (.agg (coA (x 0) (y 0) (b 0) (x 1) (y 1) (b 1) (x 2) (y 2) (b 2) (x 3) (y 3) (b 3))) (.int .i64 3)).run Tryz.prog w'=.ok (.agg (crA (x 3) (y 3) (b 3))) w':=fun w'=>by kernel_rfl
 have HB:=Lib.hid hb
 have HV:=Lib.hid hv
 have H1:=Lib.hid h1
 clear hb hv h1
 obtain ⟨R,hR⟩:∃ z,cutF (fq (mxs x b 4) (mxa b 4))=z:=⟨_,rfl⟩
 rw [hR]
 have HR:=Lib.hid hR
 clear hR
 go_enter Tryz.func245,Tryz.ntmps245
 go_wp2_with (refine ldB rfl _ _ rfl k2 rfl Tryz.underlying312 rfl co_size ?_)
 go_loopw [6,13] (fun av iv wr=>∃ j:Nat,j≤4∧iv=.int .i64 j∧av=.int .i64 (mxa b j)∧Lie w [(w.heap.size+1,289,wdA (mxs x b j))] wr) (fun _ iv _=>5-(intOf iv).toNat)
 case atStart =>
  refine ⟨0,by omega,rfl,rfl,?_⟩
  rw [show wdA (mxs x b 0)=#[.int .i64 0,.int .u64 0] from wd0]
  exact hL.sub (fun z hz=>by simp only [List.mem_cons,List.not_mem_nil,or_false] at hz ⊢;exact .inl hz)
 case round =>
  clear hL k2 k5
  obtain ⟨j,hj,rfl,rfl,hL⟩:=hrel
  have k5:Bk wr (w.heap.size+1) 289 (wdA (mxs x b j)):=hL.k 0 (by simp)
  have hbd:=mx_bd HB.out HV.out j hj
  by_cases hlt:j<4
  ·have hbd1:=mx_bd HB.out HV.out (j+1) (by omega)
   have hbj:=HB.out j
   have hvj:=HV.out j
   have hm:=fun w'=>wmul_any (b j) (x j) w' (by unfold J64;omega) (by unfold J64;omega)
   have ha:=fun w'=>wadd_any (mxs x b j) (b j*x j) w' (by unfold Wd;omega) (by unfold Wd;omega) (by unfold Wd;omega)
   rw [show mxs x b j+b j*x j=mxs x b (j+1) from rfl] at ha
   have hwr:wrap64 (mxa b j+b j)=mxa b (j+1):=by
    rw [show mxa b (j+1)=mxa b j+b j from rfl] at hbd1 ⊢
    exact IntWalk.wrap64_in _ ⟨by omega,by omega⟩
   have hcol:=fun w'=>mcol_any (x j) (y j) w'
   clear hbd hbd1 hbj hvj hj
   obtain ⟨S',hS'⟩:∃ z,mxs x b (j+1)=z:=⟨_,rfl⟩
   obtain ⟨A',hA'⟩:∃ z,mxa b (j+1)=z:=⟨_,rfl⟩
   rw [hS'] at ha
   rw [hA'] at hwr
   have HS:=Lib.hid hS'
   have HA:=Lib.hid hA'
   clear hS' hA'
   generalize mxs x b j=S at *
   generalize mxa b j=A at *
   have hj4:j=0∨j=1∨j=2∨j=3:=by omega
   have ij:∀ w':World,(Instr.index 312 (.agg (coA (x 0) (y 0) (b 0) (x 1) (y 1) (b 1) (x 2) (y 2) (b 2) (x 3) (y 3) (b 3))) (.int .i64 (j:Int))).run Tryz.prog w'=.ok (.agg (crA (x j) (y j) (b j))) w':=by
    intro w'
    rcases hj4 with rfl|rfl|rfl|rfl
    ·exact i0 w'
    ·exact i1 w'
    ·exact i2 w'
    ·exact i3 w'
   have hj0:(j:Int)<4:=by omega
   clear i0 i1 i2 i3 hj4
   generalize x j=X at *
   generalize y j=Y at *
   generalize b j=B at *
   go_upto_region 6 with fail
   have hbA:=(Below.refl wr.heap.size wr).alloc (Nat.le_refl _) (.cells (crA X Y B) 311)
   have hLA:=hL.nx hbA
   have k5A:=k5.nx hbA
   have k8A:=Bk.new wr 311 (crA X Y B)
   generalize hwA:wr.alloc (.cells (crA X Y B) 311)=wA at *
   clear hwA
   obtain ⟨d0,d1,d2⟩:=k8A.cell3
   have r0:=fun (n:Nat) (os:Array Obj)=>cell_regrown d0 n os
   have r1:=fun (n:Nat) (os:Array Obj)=>cell_regrown d1 n os
   have r2:=fun (n:Nat) (os:Array Obj)=>cell_regrown d2 n os
   refine wp_region_quiet_late 10 11 (by kernel_rfl) (by kernel_rfl) ?_
   simp only [List.take_succ_cons,List.take_zero]
   repeat (first
    | (refine wpQuiet_load rfl _ _ rfl k5A rfl Tryz.underlying289 rfl wd_size ?_;simp only [Act.put,List.setIfInBounds_toArray,List.set_cons_zero,List.set_cons_succ])
    | go_big_quiet_step ((first | with_reducible exact quiet_below (hm _)|with_reducible exact quiet_below (ha _)|with_reducible exact quiet_below (hcol _)))
    | quiet_step ((first | with_reducible exact quiet_below (hm _)|with_reducible exact quiet_below (ha _)|with_reducible exact quiet_below (hcol _))))
   refine wpQuiet_nil ?_
   intro _ hw'
   obtain ⟨⟨d,os⟩,hw''⟩:=hw'
   subst hw''
   have hbx:=below_regrown wA d os
   generalize Go.Sort.grow (redrawn wA d) os=wx at *
   have hLx:=hLA.nx hbx
   have k5x:=k5A.nx hbx
   have k8x:=k8A.nx hbx
   have hsz5:=k5.lt
   clear r0 r1 r2 d0 d1 d2 hm ha hcol ij
   show wpAny _ _ _ _ 3 _ _ _
   refine wpAny_ext (i:=10) _ _ _ _ _ rfl rfl rfl rfl rfl rfl (by kernel_rfl) (by kernel_rfl) (by kernel_rfl) (fun _ _ _ h=>h) ?_
   refine wpAny_ext (i:=11) _ _ _ _ _ rfl rfl rfl rfl rfl rfl (by kernel_rfl) (by kernel_rfl) (by kernel_rfl) (fun _ _ _ h=>h) ?_
   refine wpAny_tail 12 rfl (by kernel_rfl) ?_
   simp only [Act.put,List.setIfInBounds_toArray,List.set_cons_zero,List.set_cons_succ,List.drop_succ_cons,List.drop_zero,List.getElem_toArray,List.getElem_cons_succ,List.getElem_cons_zero]
   go_wp2_with (refine stWd rfl _ _ rfl k5x rfl rfl rfl ?_;intro w2 k52 hg2 hs2;have k82:Bk w2 wr.heap.size 311 (crA X Y B):=k8x.grown hg2 (by intro e;injection e with e;omega);have q8:=k82.cell3;obtain ⟨f0,f1,f2⟩:=q8)
   exact ⟨⟨j+1,by omega,by go_num,by rw [HA.out];first | rfl|exact val_int hwr,by rw [HS.out];exact hLx.set hg2 k52 (by omega) (by simp)⟩,by simp [intOf];omega⟩
  ·obtain rfl:j=4:=by omega
   have hq:=fun w'=>qwide_any (mxs x b 4) (mxa b 4) w' (by unfold Wq;omega) (by have:=H1.out;omega) (by unfold J64;omega)
   have hfq:-2305843009213693952≤fq (mxs x b 4) (mxa b 4)∧fq (mxs x b 4) (mxa b 4)≤2305843009213693952:=by
    have h1:=H1.out
    unfold fq
    rw [if_neg (by omega)]
    exact div_bd h1 hbd.1.1 hbd.1.2 (by decide)
   have hct:=fun w'=>qcut_any (fq (mxs x b 4) (mxa b 4)) w' (by unfold Wd;omega)
   clear i0 i1 i2 i3 hbd hj H1 HB HV hfq
   obtain ⟨Z,hZ⟩:∃ z,fq (mxs x b 4) (mxa b 4)=z:=⟨_,rfl⟩
   have hct2:∀ w',Calls Tryz.prog 280 #[WV Z] w' fun e w''=>e=.returned (.int .i64 R)∧Below w'.heap.size w' w'':=fun w'=>by rw [← HR.out,← hZ];exact hct w'
   rw [hZ] at hq
   clear hZ HR hct
   generalize fr (mxs x b 4) (mxa b 4)=Z2 at *
   generalize mxs x b 4=S at *
   generalize mxa b 4=A at *
   go_wp2_with (first
    | (refine ldWd rfl _ rfl k5 rfl ?_)
    | (go_at_call 279;(with_reducible refine (hq _).mono ?_);rintro e w3 ⟨rfl,hb3⟩;have hL3:=hL.nx hb3;have hb4:=hL3.bel.alloc hL3.sz (.cells (wdA Z) 289))
    | (go_at_call 280;(with_reducible refine (hct2 _).mono ?_);rintro e w4 ⟨rfl,hb5⟩))
   go_returns
   exact ⟨rfl,hb4.trans (hb5.mono hb4.size)⟩
end Go.Proofs.YtjbelhpgbcnlmaaGreat
end
section
set_option linter.unusedVariables false
namespace Go.Proofs.YtjbelhpgbcnlmaaGreat
open Go.RowKit
attribute [local go_sem high] run_maxM run_minM
set_option maxRecDepth 100000 in
set_option maxHeartbeats 16000000 in
theorem mixrow_any (x y b:Nat→Int) (w:World) (hb:∀ j,0≤b j∧b j≤268435456) (hv:∀ j,-2147483648≤y j∧y j≤2147483648) (h1:1≤mxa b 4) :
 Calls Tryz.prog 245 #[.agg (coA (x 0) (y 0) (b 0) (x 1) (y 1) (b 1) (x 2) (y 2) (b 2) (x 3) (y 3) (b 3)),.func (.func 247) #[] #[]] w fun e w'=>e=.returned (.int .i64 (cutF (fq (mxs y b 4) (mxa b 4))))∧Below w.heap.size w w':=by
 have hL:=((Lie.start w).alloc (coA (x 0) (y 0) (b 0) (x 1) (y 1) (b 1) (x 2) (y 2) (b 2) (x 3) (y 3) (b 3)) 312).alloc (wdA 0) 289
 simp only [World.size_alloc] at hL
 have k2:=hL.k 1 (by simp)
 have k5:=hL.k 0 (by simp)
 simp only [List.getElem_cons_zero,List.getElem_cons_succ] at k2 k5
 rw [wd0] at hL k5
 have i0:∀ w':World,(Instr.index 312 (.agg (coA (x 0) (y 0) (b 0) (x 1) (y 1) (b 1) (x 2) (y 2) (b 2) (x 3) (y 3) (b 3))) (.int .i64 0)).run Tryz.prog w'=.ok (.agg (crA (x 0) (y 0) (b 0))) w':=fun w'=>by kernel_rfl
 have i1:∀ w':World,(Instr.index 312 (.agg (coA (x 0) (y 0) (b 0) (x 1) (y 1) (b 1) (x 2) (y 2) (b 2) (x 3) (y 3) (b 3))) (.int .i64 1)).run Tryz.prog w'=.ok (.agg (crA (x 1) (y 1) (b 1))) w':=fun w'=>by kernel_rfl
 have i2:∀ w':World,(Instr.index 312 (.agg (coA (x 0) (y 0) (b 0) (x 1) (y 1) (b 1) (x 2) (y 2) (b 2) (x 3) (y 3) (b 3))) (.int .i64 2)).run Tryz.prog w'=.ok (.agg (crA (x 2) (y 2) (b 2))) w':=fun w'=>by kernel_rfl
 have i3:∀ w':World,(Instr.index 312 (.agg (coA (x 0) (y 0) (b 0) (x 1) (y 1) (b 1) (x 2) (y 2) (b 2) (x 3) (y 3) (b 3))) (.int .i64 3)).run Tryz.prog w'=.ok (.agg (crA (x 3) (y 3) (b 3))) w':=fun w'=>by kernel_rfl
 have HB:=Lib.hid hb
 have HV:=Lib.hid hv
 have H1:=Lib.hid h1
 clear hb hv h1
 obtain ⟨R,hR⟩:∃ z,cutF (fq (mxs y b 4) (mxa b 4))=z:=⟨_,rfl⟩
 rw [hR]
 have HR:=Lib.hid hR
 clear hR
 go_enter Tryz.func245,Tryz.ntmps245
 go_wp2_with (refine ldB rfl _ _ rfl k2 rfl Tryz.underlying312 rfl co_size ?_)
 go_loopw [6,13] (fun av iv wr=>∃ j:Nat,j≤4∧iv=.int .i64 j∧av=.int .i64 (mxa b j)∧Lie w [(w.heap.size+1,289,wdA (mxs y b j))] wr) (fun _ iv _=>5-(intOf iv).toNat)
 case atStart =>
  refine ⟨0,by omega,rfl,rfl,?_⟩
  rw [show wdA (mxs y b 0)=#[.int .i64 0,.int .u64 0] from wd0]
  exact hL.sub (fun z hz=>by simp only [List.mem_cons,List.not_mem_nil,or_false] at hz ⊢;exact .inl hz)
 case round =>
  clear hL k2 k5
  obtain ⟨j,hj,rfl,rfl,hL⟩:=hrel
  have k5:Bk wr (w.heap.size+1) 289 (wdA (mxs y b j)):=hL.k 0 (by simp)
  have hbd:=mx_bd HB.out HV.out j hj
  by_cases hlt:j<4
  ·have hbd1:=mx_bd HB.out HV.out (j+1) (by omega)
   have hbj:=HB.out j
   have hvj:=HV.out j
   have hm:=fun w'=>wmul_any (b j) (y j) w' (by unfold J64;omega) (by unfold J64;omega)
   have ha:=fun w'=>wadd_any (mxs y b j) (b j*y j) w' (by unfold Wd;omega) (by unfold Wd;omega) (by unfold Wd;omega)
   rw [show mxs y b j+b j*y j=mxs y b (j+1) from rfl] at ha
   have hwr:wrap64 (mxa b j+b j)=mxa b (j+1):=by
    rw [show mxa b (j+1)=mxa b j+b j from rfl] at hbd1 ⊢
    exact IntWalk.wrap64_in _ ⟨by omega,by omega⟩
   have hcol:=fun w'=>mrow_any (x j) (y j) w'
   clear hbd hbd1 hbj hvj hj
   obtain ⟨S',hS'⟩:∃ z,mxs y b (j+1)=z:=⟨_,rfl⟩
   obtain ⟨A',hA'⟩:∃ z,mxa b (j+1)=z:=⟨_,rfl⟩
   rw [hS'] at ha
   rw [hA'] at hwr
   have HS:=Lib.hid hS'
   have HA:=Lib.hid hA'
   clear hS' hA'
   generalize mxs y b j=S at *
   generalize mxa b j=A at *
   have hj4:j=0∨j=1∨j=2∨j=3:=by omega
   have ij:∀ w':World,(Instr.index 312 (.agg (coA (x 0) (y 0) (b 0) (x 1) (y 1) (b 1) (x 2) (y 2) (b 2) (x 3) (y 3) (b 3))) (.int .i64 (j:Int))).run Tryz.prog w'=.ok (.agg (crA (x j) (y j) (b j))) w':=by
    intro w'
    rcases hj4 with rfl|rfl|rfl|rfl
    ·exact i0 w'
    ·exact i1 w'
    ·exact i2 w'
    ·exact i3 w'
   have hj0:(j:Int)<4:=by omega
   clear i0 i1 i2 i3 hj4
   generalize x j=X at *
   generalize y j=Y at *
   generalize b j=B at *
   go_upto_region 6 with fail
   have hbA:=(Below.refl wr.heap.size wr).alloc (Nat.le_refl _) (.cells (crA X Y B) 311)
   have hLA:=hL.nx hbA
   have k5A:=k5.nx hbA
   have k8A:=Bk.new wr 311 (crA X Y B)
   generalize hwA:wr.alloc (.cells (crA X Y B) 311)=wA at *
   clear hwA
   obtain ⟨d0,d1,d2⟩:=k8A.cell3
   have r0:=fun (n:Nat) (os:Array Obj)=>cell_regrown d0 n os
   have r1:=fun (n:Nat) (os:Array Obj)=>cell_regrown d1 n os
   have r2:=fun (n:Nat) (os:Array Obj)=>cell_regrown d2 n os
   refine wp_region_quiet_late 10 11 (by kernel_rfl) (by kernel_rfl) ?_
   simp only [List.take_succ_cons,List.take_zero]
   repeat (first
    | (refine wpQuiet_load rfl _ _ rfl k5A rfl Tryz.underlying289 rfl wd_size ?_;simp only [Act.put,List.setIfInBounds_toArray,List.set_cons_zero,List.set_cons_succ])
    | go_big_quiet_step ((first | with_reducible exact quiet_below (hm _)|with_reducible exact quiet_below (ha _)|with_reducible exact quiet_below (hcol _)))
    | quiet_step ((first | with_reducible exact quiet_below (hm _)|with_reducible exact quiet_below (ha _)|with_reducible exact quiet_below (hcol _))))
   refine wpQuiet_nil ?_
   intro _ hw'
   obtain ⟨⟨d,os⟩,hw''⟩:=hw'
   subst hw''
   have hbx:=below_regrown wA d os
   generalize Go.Sort.grow (redrawn wA d) os=wx at *
   have hLx:=hLA.nx hbx
   have k5x:=k5A.nx hbx
   have k8x:=k8A.nx hbx
   have hsz5:=k5.lt
   clear r0 r1 r2 d0 d1 d2 hm ha hcol ij
   show wpAny _ _ _ _ 3 _ _ _
   refine wpAny_ext (i:=10) _ _ _ _ _ rfl rfl rfl rfl rfl rfl (by kernel_rfl) (by kernel_rfl) (by kernel_rfl) (fun _ _ _ h=>h) ?_
   refine wpAny_ext (i:=11) _ _ _ _ _ rfl rfl rfl rfl rfl rfl (by kernel_rfl) (by kernel_rfl) (by kernel_rfl) (fun _ _ _ h=>h) ?_
   refine wpAny_tail 12 rfl (by kernel_rfl) ?_
   simp only [Act.put,List.setIfInBounds_toArray,List.set_cons_zero,List.set_cons_succ,List.drop_succ_cons,List.drop_zero,List.getElem_toArray,List.getElem_cons_succ,List.getElem_cons_zero]
   go_wp2_with (refine stWd rfl _ _ rfl k5x rfl rfl rfl ?_;intro w2 k52 hg2 hs2;have k82:Bk w2 wr.heap.size 311 (crA X Y B):=k8x.grown hg2 (by intro e;injection e with e;omega);have q8:=k82.cell3;obtain ⟨f0,f1,f2⟩:=q8)
   exact ⟨⟨j+1,by omega,by go_num,by rw [HA.out];first | rfl|exact val_int hwr,by rw [HS.out];exact hLx.set hg2 k52 (by omega) (by simp)⟩,by simp [intOf];omega⟩
  ·obtain rfl:j=4:=by omega
   have hq:=fun w'=>qwide_any (mxs y b 4) (mxa b 4) w' (by unfold Wq;omega) (by have:=H1.out;omega) (by unfold J64;omega)
   have hfq:-2305843009213693952≤fq (mxs y b 4) (mxa b 4)∧fq (mxs y b 4) (mxa b 4)≤2305843009213693952:=by
    have h1:=H1.out
    unfold fq
    rw [if_neg (by omega)]
    exact div_bd h1 hbd.1.1 hbd.1.2 (by decide)
   have hct:=fun w'=>qcut_any (fq (mxs y b 4) (mxa b 4)) w' (by unfold Wd;omega)
   clear i0 i1 i2 i3 hbd hj H1 HB HV hfq
   obtain ⟨Z,hZ⟩:∃ z,fq (mxs y b 4) (mxa b 4)=z:=⟨_,rfl⟩
   have hct2:∀ w',Calls Tryz.prog 280 #[WV Z] w' fun e w''=>e=.returned (.int .i64 R)∧Below w'.heap.size w' w'':=fun w'=>by rw [← HR.out,← hZ];exact hct w'
   rw [hZ] at hq
   clear hZ HR hct
   generalize fr (mxs y b 4) (mxa b 4)=Z2 at *
   generalize mxs y b 4=S at *
   generalize mxa b 4=A at *
   go_wp2_with (first
    | (refine ldWd rfl _ rfl k5 rfl ?_)
    | (go_at_call 279;(with_reducible refine (hq _).mono ?_);rintro e w3 ⟨rfl,hb3⟩;have hL3:=hL.nx hb3;have hb4:=hL3.bel.alloc hL3.sz (.cells (wdA Z) 289))
    | (go_at_call 280;(with_reducible refine (hct2 _).mono ?_);rintro e w4 ⟨rfl,hb5⟩))
   go_returns
   exact ⟨rfl,hb4.trans (hb5.mono hb4.size)⟩
end Go.Proofs.YtjbelhpgbcnlmaaGreat
end
section
set_option linter.unusedVariables false
namespace Go.Proofs.YtjbelhpgbcnlmaaGreat
open Go.RowKit
theorem run_max4M {P:Program} {w:World} (ts:Array TypeId) (t:TypeId) (k k' k2 k3:IntKind) (x y z u:Int):(Builtin.max_ ts t #[.int k x,.int k' y,.int k2 z,.int k3 u]).run P w=.ok (.int k (max x (max y (max z u)))) w:=by
 have h2:∀ (k k':IntKind) (a b:Int) (w:World),(Builtin.max2 (.int k a) (.int k' b)).run P w=.ok (.int k (max a b)) w:=fun k k' a b w=>by
  simp [Builtin.max2];split <;> omega
 simp [Builtin.max_,h2]
theorem run_min4M {P:Program} {w:World} (ts:Array TypeId) (t:TypeId) (k k' k2 k3:IntKind) (x y z u:Int):(Builtin.min_ ts t #[.int k x,.int k' y,.int k2 z,.int k3 u]).run P w=.ok (.int k (min x (min y (min z u)))) w:=by
 have h2:∀ (k k':IntKind) (a b:Int) (w:World),(Builtin.min2 (.int k a) (.int k' b)).run P w=.ok (.int k (min a b)) w:=fun k k' a b w=>by
  simp [Builtin.min2];split <;> omega
 simp [Builtin.min_,h2]
attribute [local go_sem high] run_maxM run_minM run_max4M run_min4M
def meB4 (W S H T:Int):Nat→Int
 | 0=>(W-S)*(H-T)
 | 1=>S*(H-T)
 | 2=>(W-S)*T
 | 3=>S*T
 | _=>0
def meV (f:Int→Int→Int) (I K:Int):Nat→Int
 | 0=>f I K
 | 1=>f (I+1) K
 | 2=>f I (K+1)
 | 3=>f (I+1) (K+1)
 | _=>0
def meWt (l:List Int) (px py d:Int):Nat→Int:=meB4 (cf l 0*d) (meT (cf l 0) (cf l 2) px d) (cf l 1*d) (meT (cf l 1) (cf l 3) py d)
def meSm (l:List Int) (f:Int→Int→Int) (px py d:Int):Int:=mxs (meV f (meI (cf l 0) (cf l 2) px d) (meI (cf l 1) (cf l 3) py d)) (meWt l px py d) 4
def meAl (l:List Int) (d:Int):Int:=(cf l 0*d)*(cf l 1*d)
theorem mxa_wt (l:List Int) (px py d:Int):mxa (meWt l px py d) 4=meAl l d:=by
 show 0+_+_+_+_=_
 unfold meAl meWt
 rw [Int.zero_add]
 exact me_all _ _ _ _
def meU (l:List Int) (px py d:Int):Int:=if rightH px py d=true then cutF (fq (meSm l (knX l) px py d) (meAl l d)) else 0
def meVv (l:List Int) (px py d:Int):Int:=if rightH px py d=true then cutF (fq (meSm l (knY l) px py d) (meAl l d)) else 0
def meE (px py d:Int):Int:=if rightH px py d=true then 0 else 11
theorem me_nil (x y d:Int) (w:World):Calls Tryz.prog 170 #[.pointer none,.int .i64 x,.int .i64 y,.int .i64 d] w fun e w'=>e=.returned (.tuple #[.int .i64 0,.int .i64 0,.int .i64 10])∧w=w':=by
 go_enter Tryz.func170,Tryz.ntmps170
 go_wp2_with fail
 go_returns
 exact ⟨rfl,rfl⟩
theorem kn_bd {l:List Int} (h:MeF l) (i k:Int):(-2147483648≤knX l i k∧knX l i k≤2147483648)∧(-2147483648≤knY l i k∧knY l i k≤2147483648):=⟨h.far _ (by omega),h.far _ (by omega)⟩
theorem meV_bd {f:Int→Int→Int} (h:∀ i k,-2147483648≤f i k∧f i k≤2147483648) (I K:Int):∀ j,-2147483648≤meV f I K j∧meV f I K j≤2147483648:=fun j=>by
 unfold meV
 split
 ·exact h _ _
 ·exact h _ _
 ·exact h _ _
 ·exact h _ _
 ·decide
theorem meWt_bd {l:List Int} (h:MeF l) {px py d:Int} (hd:1≤d∧d≤16):(∀ j,0≤meWt l px py d j∧meWt l px py d j≤268435456)∧1≤meAl l d:=by
 obtain ⟨_,_,s0,s1⟩:=meB (p:=px) h.gx.1 h.nx.1 hd.1
 obtain ⟨_,_,t0,t1⟩:=meB (p:=py) h.gy.1 h.ny.1 hd.1
 obtain ⟨_,_,w0,w1⟩:=me_room h.gx h.nx hd
 obtain ⟨_,_,h0,h1⟩:=me_room h.gy h.ny hd
 refine ⟨fun j=>?_,?_⟩
 ·unfold meWt
  generalize meT (cf l 0) (cf l 2) px d=S at *
  generalize meT (cf l 1) (cf l 3) py d=T at *
  generalize cf l 0*d=W at *
  generalize cf l 1*d=H at *
  have key:∀ a b:Int,0≤a→a≤16384→0≤b→b≤16384→0≤a*b∧a*b≤268435456:=fun a b a0 a1 b0 b1=>by
   have q0:=Int.mul_nonneg a0 b0
   have q1:a*b≤16384*16384:=Int.mul_le_mul a1 b1 b0 (by omega)
   omega
  unfold meB4
  split
  ·exact key _ _ (by omega) (by omega) (by omega) (by omega)
  ·exact key _ _ (by omega) (by omega) (by omega) (by omega)
  ·exact key _ _ (by omega) (by omega) (by omega) (by omega)
  ·exact key _ _ (by omega) (by omega) (by omega) (by omega)
  ·decide
 ·have:1*1≤(cf l 0*d)*(cf l 1*d):=Int.mul_le_mul w0 h0 (by omega) (by omega)
  unfold meAl;omega
set_option maxRecDepth 100000 in
set_option maxHeartbeats 8000000 in
theorem me_at (l:List Int) (g b o cp:Nat) (px py d:Int) (w:World) (hF:MeF l) (h:MeW l w g b o cp) :
 Calls Tryz.prog 170 #[.pointer (some ⟨g,0,none⟩),.int .i64 px,.int .i64 py,.int .i64 d] w fun e w'=>e=.returned (.tuple #[.int .i64 (meU l px py d),.int .i64 (meVv l px py d),.int .i64 (meE px py d)])∧Below w.heap.size w w':=by
 by_cases hin:(-1048576≤px∧px≤1048576)∧(-1048576≤py∧py≤1048576)
 ·obtain ⟨hx,hy⟩:=hin
  have n1:wrap64 (-px)=-px:=IntWalk.wrap64_in _ ⟨by omega,by omega⟩
  have n2:wrap64 (-py)=-py:=IntWalk.wrap64_in _ ⟨by omega,by omega⟩
  obtain ⟨M,hM⟩:∃ M,max px (max (-px) (max py (-py)))=M:=⟨_,rfl⟩
  obtain ⟨m,hm⟩:∃ m,min px (min (-px) (min py (-py)))=m:=⟨_,rfl⟩
  have hM1:M≤1048576:=by omega
  have hm1:-1048576≤m:=by omega
  have hc:(d<1∧Hid (rightH px py d=false))∨(1≤d∧16<d∧Hid (rightH px py d=false))∨(1≤d∧d≤16∧Hid (rightH px py d=true)):=by
   rcases (show d<1∨(1≤d∧16<d)∨(1≤d∧d≤16) by omega) with h1|⟨h1,h2⟩|⟨h1,h2⟩
   ·exact .inl ⟨h1,Bool.eq_false_iff.2 (fun e=>by have:=rightH_iff.1 e;omega)⟩
   ·exact .inr (.inl ⟨h1,h2,Bool.eq_false_iff.2 (fun e=>by have:=rightH_iff.1 e;omega)⟩)
   ·exact .inr (.inr ⟨h1,h2,rightH_iff.2 ⟨hx,hy,h1,h2⟩⟩)
  have hb0:=Below.refl w.heap.size w
  rcases hc with ⟨h1,HR⟩|⟨h1,h2,HR⟩|⟨h1,h2,HR⟩
  ·clear hx hy
   go_enter Tryz.func170,Tryz.ntmps170
   go_wp2_with fail
   go_returns
   exact ⟨by rw [meU,meVv,meE,HR.out];rfl,hb0⟩
  ·clear hx hy
   go_enter Tryz.func170,Tryz.ntmps170
   go_wp2_with fail
   go_returns
   exact ⟨by rw [meU,meVv,meE,HR.out];rfl,hb0⟩
  ·obtain ⟨hwt,hal⟩:=meWt_bd (px:=px) (py:=py) hF ⟨h1,h2⟩
   have hxb:=meV_bd (fun i k=>(kn_bd hF i k).1) (meI (cf l 0) (cf l 2) px d) (meI (cf l 1) (cf l 3) py d)
   have hyb:=meV_bd (fun i k=>(kn_bd hF i k).2) (meI (cf l 0) (cf l 2) px d) (meI (cf l 1) (cf l 3) py d)
   have hC:=mcorners_any l g b o cp px py d w hF h ⟨h1,h2⟩ hx hy _ _ _ _ _ _ rfl rfl rfl rfl rfl rfl
   have hC':Calls Tryz.prog 244 #[.pointer (some ⟨g,0,none⟩),.int .i64 px,.int .i64 py,.int .i64 d] w fun e w'=>e=.returned (.agg (coA (meV (knX l) (meI (cf l 0) (cf l 2) px d) (meI (cf l 1) (cf l 3) py d) 0) (meV (knY l) (meI (cf l 0) (cf l 2) px d) (meI (cf l 1) (cf l 3) py d) 0) (meWt l px py d 0) (meV (knX l) (meI (cf l 0) (cf l 2) px d) (meI (cf l 1) (cf l 3) py d) 1) (meV (knY l) (meI (cf l 0) (cf l 2) px d) (meI (cf l 1) (cf l 3) py d) 1) (meWt l px py d 1) (meV (knX l) (meI (cf l 0) (cf l 2) px d) (meI (cf l 1) (cf l 3) py d) 2) (meV (knY l) (meI (cf l 0) (cf l 2) px d) (meI (cf l 1) (cf l 3) py d) 2) (meWt l px py d 2) (meV (knX l) (meI (cf l 0) (cf l 2) px d) (meI (cf l 1) (cf l 3) py d) 3) (meV (knY l) (meI (cf l 0) (cf l 2) px d) (meI (cf l 1) (cf l 3) py d) 3) (meWt l px py d 3)))∧Below w.heap.size w w':=hC
   have hal2:1≤mxa (meWt l px py d) 4:=by rw [mxa_wt];exact hal
   have EU:meU l px py d=cutF (fq (mxs (meV (knX l) (meI (cf l 0) (cf l 2) px d) (meI (cf l 1) (cf l 3) py d)) (meWt l px py d) 4) (mxa (meWt l px py d) 4)):=by
    unfold meU;rw [if_pos HR.out,mxa_wt];rfl
   have EV:meVv l px py d=cutF (fq (mxs (meV (knY l) (meI (cf l 0) (cf l 2) px d) (meI (cf l 1) (cf l 3) py d)) (meWt l px py d) 4) (mxa (meWt l px py d) 4)):=by
    unfold meVv;rw [if_pos HR.out,mxa_wt];rfl
   have EE:meE px py d=0:=by unfold meE;rw [if_pos HR.out]
   generalize meV (knX l) (meI (cf l 0) (cf l 2) px d) (meI (cf l 1) (cf l 3) py d)=x at *
   generalize meV (knY l) (meI (cf l 0) (cf l 2) px d) (meI (cf l 1) (cf l 3) py d)=y at *
   generalize meWt l px py d=wt at *
   have hX:=fun w'=>mixcol_any x y wt w' hwt hxb hal2
   have hY:=fun w'=>mixrow_any x y wt w' hwt hyb hal2
   rw [← EU] at hX
   rw [← EV] at hY
   rw [EE]
   clear EU EV EE hal hal2 hwt hxb hyb hC HR hx hy hF h
   generalize meU l px py d=U at *
   generalize meVv l px py d=V at *
   go_enter Tryz.func170,Tryz.ntmps170
   go_wp2_with (go_at_call 244;(with_reducible refine hC'.mono ?_);rintro e w1 ⟨rfl,hb1⟩)
   have hbA:=hb1.alloc hb1.size (.cells (coA (x 0) (y 0) (wt 0) (x 1) (y 1) (wt 1) (x 2) (y 2) (wt 2) (x 3) (y 3) (wt 3)) 312)
   have kA:=Bk.new w1 312 (coA (x 0) (y 0) (wt 0) (x 1) (y 1) (wt 1) (x 2) (y 2) (wt 2) (x 3) (y 3) (wt 3))
   generalize hwA:w1.alloc (.cells (coA (x 0) (y 0) (wt 0) (x 1) (y 1) (wt 1) (x 2) (y 2) (wt 2) (x 3) (y 3) (wt 3)) 312)=wA at *
   clear hwA
   refine wp_region_quiet_below (by kernel_rfl) (by kernel_rfl) ?_
   repeat (first
    | (refine wpQuiet_load rfl _ _ rfl kA rfl Tryz.underlying312 rfl co_size ?_;simp only [Act.put,List.setIfInBounds_toArray,List.set_cons_zero,List.set_cons_succ])
    | go_big_quiet_step ((first | with_reducible exact quiet_below (hX _)|with_reducible exact quiet_below (hY _)))
    | quiet_step ((first | with_reducible exact quiet_below (hX _)|with_reducible exact quiet_below (hY _))))
   refine wpQuiet_nil ?_
   intro _ hw'
   obtain ⟨⟨dd,os⟩,hw''⟩:=hw'
   subst hw''
   have hbx:=below_regrown wA dd os
   generalize Go.Sort.grow (redrawn wA dd) os=wx at *
   clear hX hY
   go_wp2_with fail
   go_returns
   exact ⟨rfl,hbA.trans (hbx.mono hbA.size)⟩
 ·have HR:Hid (rightH px py d=false):=Bool.eq_false_iff.2 (fun e=>hin ⟨(rightH_iff.1 e).1,(rightH_iff.1 e).2.1⟩)
  have hb0:=Below.refl w.heap.size w
  obtain ⟨a,ha⟩:∃ a,wrap64 (-px)=a:=⟨_,rfl⟩
  obtain ⟨c,hc⟩:∃ c,wrap64 (-py)=c:=⟨_,rfl⟩
  obtain ⟨M,hM⟩:∃ M,max px (max a (max py c))=M:=⟨_,rfl⟩
  obtain ⟨m,hm⟩:∃ m,min px (min a (min py c))=m:=⟨_,rfl⟩
  have hMm:1048576<M∨(M≤1048576∧m < -1048576):=by omega
  clear hin
  rcases hMm with h1|⟨h1,h2⟩
  all_goals
   go_enter Tryz.func170,Tryz.ntmps170
   go_wp2_with fail
   go_returns
   exact ⟨by rw [meU,meVv,meE,HR.out];rfl,hb0⟩
end Go.Proofs.YtjbelhpgbcnlmaaGreat
end
section
set_option linter.unusedVariables false
namespace Go.Proofs.YtjbelhpgbcnlmaaGreat
open Go.RowKit
def noOut (Q:Exit→Act→World→Prop):Exit→Act→World→Prop
 | .outgrown,_,_=>False
 | e,a,w=>Q e a w
theorem noOut_le {Q:Exit→Act→World→Prop} {e:Exit} {a:Act} {w:World} (h:noOut Q e a w):Q e a w:=by
 cases e <;> first | exact h|exact h.elim
theorem noOut_out {Q:Exit→Act→World→Prop}:¬LetsOut (noOut Q):=fun ⟨_,_,h⟩=>h
theorem rowsIn_round {l n:Nat} {P:Program} {row:String} {args:Array Value} {w:World} {R:Value→World→Prop} (h:Rows P row args w R):RowsIn (Fence.wide.inRound l) n P row args w R :=
 fun c cs _=>let ⟨v,w',r,s⟩:=h c cs;⟨v,w',r,stepsIn_wide.2 s⟩
theorem opIn_round {l n:Nat} {P:Program} {o:Oper} {a:Act} {w:World} {K:Act→World→Prop} {Q:Exit→Act→World→Prop} (hd:∀ c,o.op≠.defer c) (h:o.wp P a w K Q):o.wpIn (Fence.wide.inRound l) n P a w K Q:=by
 refine ⟨fun _ _=>trivial,?_⟩
 rw [show (Fence.wide.inRound l).round=some l from rfl,Oper.semAt_some l a.eval o hd]
 unfold Oper.wp at h
 revert h
 cases (execOp a.eval o).run P w with
 | ok x w' =>
   intro h
   cases x with
   | value v=>exact h
   | skip=>exact h
   | defer d=>exact h
   | enter f args=>exact ⟨fun e=>(by cases e),CallsIn.inRound l (callsIn_wide.2 h)⟩
   | row r args=>exact ⟨fun e=>(by cases e),rowsIn_round h⟩
   | _=>exact h.elim
 | halt x w' =>
   intro h
   cases x <;> exact h
theorem opsIn_round {lp n:Nat} {P:Program} {ops:Array Oper} {Q:Exit→Act→World→Prop} (hd:∀ (i:Nat) (o:Oper),ops[i]?=some o→∀ c,o.op≠.defer c) (hQ:¬LetsOut Q):∀ (l:List Nat) (a:Act) (w:World),wpOps P ops Q l a w→wpOpsIn (Fence.wide.inRound lp) n P ops Q l a w
 | [],a,w,h=>h
 | i::rest,a,w,h=>by
   unfold wpOps at h
   unfold wpOpsIn
   cases ho:ops[i]? with
   | none =>
     rw [ho] at h
     exact opsIn_round hd hQ rest a w h
   | some o =>
     rw [ho] at h
     simp only at h ⊢
     split
     ·rename_i hw
      rw [if_pos hw] at h
      rcases h with h|⟨_,h⟩
      ·exact Oper.wpIn_mono (fun a w h=>opsIn_round hd hQ rest a w h) (opIn_round (hd i o ho) h)
      ·exact absurd h hQ
     ·rename_i hw
      rw [if_neg hw] at h
      exact ⟨fun _ _=>trivial,opsIn_round hd hQ rest _ w h⟩
def notDefer:Op→Bool
 | .defer _=>false
 | _=>true
theorem wpIn_region_tail {lp m:Nat} {P:Program} {id:Nat} {Q:Exit→Act→World→Prop} {a:Act} {w:World} {l:List Oper} (n:Nat) (hm:P.follows .mixedOrders=true) (hd':l.all (fun o=>notDefer o.op)=true) (hB:Region.lexTailB .any l.toArray n=true)
 (h:wpStill P l.toArray { w with drawn:=w.drawn+1 } (fun a'=>wpList P l.toArray (noOut Q) (l.drop n) a' { w with drawn:=w.drawn+1 }) (l.take n) a):(Code.region id l.toArray true).wpIn (Fence.wide.inRound lp) m P Q a w:=by
 have hd:∀ (i:Nat) (o:Oper),l.toArray[i]?=some o→∀ c,o.op≠.defer c:=fun i o hi c e=>by
  have hm:o∈l:=List.mem_of_getElem? (by simpa using hi)
  have:=List.all_eq_true.1 hd' o hm
  rw [e] at this
  cases this
 simp only [Region.lexTailB,Bool.and_eq_true,decide_eq_true_eq] at hB
 obtain ⟨⟨⟨⟨hsel,hn⟩,hs⟩,hc⟩,hlex⟩:=hB
 have hn':n<l.length:=by simpa using hn
 have htl:(l.take n).length=n:=by simp;omega
 have hdl:(l.drop n).length=l.toArray.size-n:=by simp
 have inv0:HeadInv .any l.toArray n (Array.replicate l.toArray.size false) :=
  ⟨by simp,fun j oj _ hl=>(by rw [getD_replicate_false] at hl;cases hl),fun t _ ht=>getD_in (by simpa using ht) (getD_replicate_false _ _)⟩
 have H:=wpAnyL_lex (md:=.any) (g:=l.toArray.size-n) hsel hs hc hn (l.take n) 0 _ a (fun j hj=>by
  have hj':j<n:=by rw [htl] at hj;exact hj
  simp [hj']) (by simpa using htl) inv0 (by rw [htl];exact hlex) h
 have h2:=wpAny_of_head (Q':=noOut Q) (g:=l.toArray.size-n) (fun listed a' hL=>by
  have:=wpAny_of_seq (md:=.any) (Q':=noOut Q) (l.drop n) n listed a' { w with drawn:=w.drawn+1 } (fun j=>by simp [List.getElem?_drop]) (by rw [hdl];exact hL.1) hL.2
  rwa [hdl] at this) _ _ _ H
 rw [htl,show n+(l.toArray.size-n)=l.toArray.size by omega] at h2
 refine Code.wpIn_mono (fun e a w=>noOut_le) ?_
 refine wpIn_region_draw fun t=>?_
 simp only [Region.schedule,hm,Bool.true_or,if_true]
 exact opsIn_round hd noOut_out _ _ _ (wpAny_sound l.toArray.size t _ a _ h2)
end Go.Proofs.YtjbelhpgbcnlmaaGreat
end
section
set_option linter.unusedVariables false
namespace Go.Proofs.YtjbelhpgbcnlmaaGreat
open Go.RowKit
theorem wpIn_region_of_held {lp m:Nat} {P:Program} {id:Nat} {Q:Exit→Act→World→Prop} {S:World→Prop} {a:Act} {w:World} {l:List Oper} (hm:P.follows .mixedOrders=true) (hd':l.all (fun o=>notDefer o.op)=true)
 (h:wpAnyH P .any l.toArray (noOut Q) S l.toArray.size (Array.replicate l.toArray.size false) a w.drew):(Code.region id l.toArray true).wpIn (Fence.wide.inRound lp) m P Q a w:=by
 have hd:∀ (i:Nat) (o:Oper),l.toArray[i]?=some o→∀ c,o.op≠.defer c:=fun i o hi c e=>by
  have hm:o∈l:=List.mem_of_getElem? (by simpa using hi)
  have:=List.all_eq_true.1 hd' o hm
  rw [e] at this
  cases this
 refine Code.wpIn_mono (fun e a w=>noOut_le) ?_
 refine wpIn_region_draw fun t=>?_
 simp only [Region.schedule,hm,Bool.true_or,if_true]
 exact opsIn_round hd noOut_out _ _ _ (wpAny_sound l.toArray.size t _ a _ (wpAny_of_held _ _ _ _ h))
end Go.Proofs.YtjbelhpgbcnlmaaGreat
end
section
set_option linter.unusedVariables false
namespace Go.Proofs.YtjbelhpgbcnlmaaGreat
open Go.RowKit Go.Shelf
def prK (l:List Int) (m:Nat) (x:CK):List Int:=[cf l (4+2*ckI m x),cf l (4+2*ckI m x+1)]
theorem prK_all (l:List Int) (m K:Nat) (hK:K≤m) (hm:m≤100000):(upK K).flatMap (prK l m)=(List.range (2*K)).map (fun j=>cf l (4+j)):=by
 induction K with
 | zero=>rfl
 | succ K ih =>
   rw [upK,List.flatMap_append,ih (by omega),show 2*(K+1)=2*K+1+1 by omega,List.range_succ,List.range_succ,List.map_append,List.map_append,List.append_assoc]
   congr 1
   simp only [List.flatMap_cons,List.flatMap_nil,List.append_nil,prK,ckI_mk (show K<m by omega) hm,List.map_cons,List.map_nil,List.cons_append,List.nil_append]
   rfl
abbrev meV5 (l:List Int) (v:Value):Array Value:=#[.int .i64 (cf l 0),.int .i64 (cf l 2),.int .i64 (cf l 1),.int .i64 (cf l 3),v]
structure MInv (l:List Int) (w:World) (base gp gm:Nat) (pre:List CK) (W:World):Prop where
 ptr:Bk W gp 230 #[.pointer (some ⟨gm,0,none⟩)]
 map:∃ v,Bk W gm 302 (meV5 l v)∧W.ownsRow base 309 2 v pre.length ((pre.flatMap (prK l (meK l))).map (Value.int .i64))
 bel:Below w.heap.size w W
 sz:base≤W.heap.size
theorem own_kept2 {w w':World} {base n size:Nat} {e:TypeId} {v:Value} {xs:List Value} {row:Option Nat} (h:w.ownsRow base e size v n xs) (hg:w.grownBy w' row) (hr:∀ r,row=some r→∃ o:Obj,w.heap[r]?=some o∧o.isCells=false):w'.ownsRow base e size v n xs:=by
 refine h.kept hg ?_
 rcases h.2 with ⟨rfl,_⟩|⟨g,cap,cur,rfl,_,hgb,_⟩
 ·exact .inl rfl
 ·refine .inr fun e'=>?_
  obtain ⟨o,ho,hc⟩:=hr g e'.symm
  rw [hgb] at ho
  cases ho
  cases hc
theorem minv_own {l:List Int} {w:World} {base gp gm B:Nat} (hB:base≤B) (h1:gp<base) (h2:gm<base) (h3:w.heap.size≤B):OwnFrom B (MInv l w base gp gm):=by
 intro pre W W' row h hg hr
 obtain ⟨v,k1,k2⟩:=h.map
 refine ⟨h.ptr.grown hg (fun e=>by have:=(hr _ e.symm).1;omega),⟨v,k1.grown hg (fun e=>by have:=(hr _ e.symm).1;omega),own_kept2 k2 hg (fun r e=>(hr r e).2)⟩,?_,Nat.le_trans h.sz hg.size⟩
 exact h.bel.grown hg h.bel.size (fun k e=>by have:=(hr k e).1;omega)
theorem kb_below {W W':World} (h:Below W.heap.size W W'):KeepsOthers W W':=KeepsOthers.of_grownBy (gb_of_below (row:=none) h) (fun _ _ e _=>by cases e)
theorem kb_row {W W':World} {base n size:Nat} {e:TypeId} {v:Value} {xs:List Value} (h:W.ownsRow base e size v n xs) (hg:W.grownBy W' v.ownBlock):KeepsOthers W W' :=
 KeepsOthers.of_grownBy hg (fun j o ej ho=>by
  rcases h.2 with ⟨rfl,_⟩|⟨g,cap,cur,rfl,_,hgb,_⟩
  ·cases ej
  ·have:g=j:=by simpa [Value.ownBlock] using ej
   subst this
   rw [hgb] at ho
   cases ho
   rfl)
theorem kn_info:(Tryz.prog.info? 309).map (fun i=>(i.zero,i.size,i.bytes))=some (some (.agg #[.int .i64 0,.int .i64 0]),2,16):=by kernel_rfl
theorem kn_app (W:World) (base k:Nat) (v:Value) (xs:List Value) (a0 a1:Int) (ho:W.ownsRow base 309 2 v k xs) (hb:base≤W.heap.size) (hk:k≤100000) :
 ∃ v' w',(Builtin.append_ #[300,300] 300 #[v,.slice (some ⟨W.heap.size,0,none⟩) 1 1]).run Tryz.prog (W.alloc (.cells #[.int .i64 a0,.int .i64 a1] 309))=.ok v' w'∧w'.ownsRow base 309 2 v' (k+1) (xs++[.int .i64 a0,.int .i64 a1])∧(W.alloc (.cells #[.int .i64 a0,.int .i64 a1] 309)).grownBy w' v.ownBlock:=by
 obtain ⟨i,hi',hz,hs0,hby⟩:=info_parts kn_info
 obtain ⟨v',w',hr,h2,h3,_,h5⟩:=run_append_own_at (P:=Tryz.prog) (W.alloc (.cells #[.int .i64 a0,.int .i64 a1] 309)) base 300 300 309 i _ 2 16 Tryz.underlying300 hi' hz hs0 hby rfl (by decide) v k xs (ho.alloc _) ⟨W.heap.size,0,none⟩ 1 1 [.int .i64 a0,.int .i64 a1] rfl
  (fun j u hj=>by rw [add0,World.cell?_alloc_new];simpa using hj) (by simp [Value.oneCell']) (by simp [maxLen];omega) (by omega) (by simp;omega)
 exact ⟨v',w',hr,h2,h3⟩
theorem minv_step {l:List Int} {w:World} {base gp gm gS:Nat} {pre:List CK} {W W9:World} {v v':Value} {x:CK} {a0 a1:Int}
 (h:MInv l w base gp gm pre W) (hM:Bk W gm 302 (meV5 l v)) (hown:W.ownsRow base 309 2 v pre.length ((pre.flatMap (prK l (meK l))).map (Value.int .i64)))
 (hg:(W.drew.alloc (.cells #[.int .i64 a0,.int .i64 a1] 309)).grownBy W9 v.ownBlock) (hown':W9.ownsRow base 309 2 v' (pre.length+1) ((pre.flatMap (prK l (meK l))).map (Value.int .i64)++[.int .i64 a0,.int .i64 a1]))
 (hx:prK l (meK l) x=[a0,a1]) (hgp:gp<gS) (hgm:gm<gS) (hgS:gS+1<base) (hne:gp≠gm) (hwm:w.heap.size≤gm) :
 KeepsOthers W (W9.setCell ⟨gm,4,none⟩ v')∧KpC gS (gS+1) W (W9.setCell ⟨gm,4,none⟩ v')∧MInv l w base gp gm (pre++[x]) (W9.setCell ⟨gm,4,none⟩ v'):=by
 have hge:=own_ge hown
 have hsz:=h.sz
 have hbA:Below W.heap.size W (W.drew.alloc (.cells #[.int .i64 a0,.int .i64 a1] 309)):=((Below.refl W.heap.size W).drew).alloc (Nat.le_refl _) _
 have hownA:=own_below hown hbA (Nat.le_refl _)
 have hblk:∀ i,i<base→W9.heap[i]?=W.heap[i]?:=fun i hi=>by
  rw [hg.block i (by have:=hbA.size;omega) (fun e=>by have:=hge _ e.symm;omega)]
  exact hbA.block i (by omega)
 have hM9:Bk W9 gm 302 (meV5 l v):=(hblk gm (by omega)).trans hM
 refine ⟨((kb_below hbA).trans (kb_row hownA hg)).trans (KeepsOthers.setCell _ _ _),⟨?_,?_⟩,?_⟩
 ·rw [Below.heap_setCell W9 ⟨gm,4,none⟩ v' gS (by show gS≠gm;omega)];exact hblk gS (by omega)
 ·rw [Below.heap_setCell W9 ⟨gm,4,none⟩ v' (gS+1) (by show gS+1≠gm;omega)];exact hblk (gS+1) (by omega)
 ·refine ⟨?_,⟨v',?_,?_⟩,?_,?_⟩
  ·exact ((show Bk W9 gp 230 _ from (hblk gp (by omega)).trans h.ptr)).far (by show gp≠gm;exact hne) _
  ·have:=hM9.set 4 v'
   simpa using this
  ·rw [List.flatMap_append,List.map_append,List.length_append]
   have e:([x].flatMap (prK l (meK l))).map (Value.int .i64)=[.int .i64 a0,.int .i64 a1]:=by simp [hx]
   rw [e]
   exact own_far hown' ⟨gm,4,none⟩ v' (fun g e=>by have:=own_ge hown' g e;show g≠gm;omega)
  ·refine (((h.bel.trans (hbA.mono h.bel.size)).grown hg (Nat.le_trans h.bel.size hbA.size) (fun k e=>by have:=hge k e;omega))).setCell (p:=⟨gm,4,none⟩) hwm _
  ·have:=hbA.size
   have:=hg.size
   simp [World.setCell]
   omega
end Go.Proofs.YtjbelhpgbcnlmaaGreat
end
end
