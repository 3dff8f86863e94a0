/- Several texts in one: A region that draws its order: operations that read, and calls that lay blocks of their own, in whatever order; then a tail, one by one. linear: the four pixels around a place. -/
import Derived.Test.YtjbelhpgbcnlmaaGreatSamplePixelsZz1
import Derived.StillTail
import Derived.Lib.QuietBelow
import Derived.Test.YtjbelhpgbcnlmaaGreatSamplePixelsZz7
import Derived.Test.YtjbelhpgbcnlmaaGreatSamplePixelsZz4
section
set_option linter.unusedVariables false
namespace Go.Proofs.YtjbelhpgbcnlmaaGreat
open Go.RowKit Go.Sort
section
variable {P:Program} {ops:Array Oper} {md:Region.Mode} {C:World→Prop}
def HeadQ (P:Program) (md:Region.Mode) (ops:Array Oper) (C:World→Prop) (n:Nat) (L:Array Bool→Act→Prop):Nat→Array Bool→Act→Prop
 | 0,ls,a=>L ls a
 | f+1,ls,a=>Region.ready md ops ls≠[]∧∀ j∈Region.ready md ops ls,j<n∧qOp P ops C j (HeadQ P md ops C n L f (ls.setIfInBounds j true)) a
def FreeAt (md:Region.Mode) (ops:Array Oper) (ls:Array Bool) (i:Nat) (oi:Oper):Prop :=
 ∀ j oj,ops[j]?=some oj→j≠i→ls.getD j true=false→(∀ e∈oj.after,Region.binds md e=true→e.on≠i)→oi.apart ops oj=true
theorem FreeAt.set {ls:Array Bool} {i j:Nat} {oi:Oper} (h:FreeAt md ops ls i oi) (hj:ls.getD j true=false):FreeAt md ops (ls.setIfInBounds j true) i oi:=by
 intro k ok hk hki hun hno
 rcases Nat.decEq j k with hne|heq
 ·exact h k ok hk hki (by rw [getD_set_ne true hne] at hun;exact hun) hno
 ·subst heq
  exact h j ok hk hki hj hno
theorem HeadQ.run {n g:Nat} {L:Array Bool→Act→Prop} {Q':Exit→Act→World→Prop} (hL:∀ ls a w,C w→L ls a→wpAny P md ops Q' g ls a w) (f:Nat):∀ (ls:Array Bool) (a:Act) (w:World),C w→HeadQ P md ops C n L f ls a→wpAny P md ops Q' (f+g) ls a w:=by
 induction f with
 | zero=>intro ls a w hw h;rw [Nat.zero_add];exact hL ls a w hw h
 | succ f ih =>
   intro ls a w hw h
   rw [Nat.succ_add]
   exact ⟨fun h0=>absurd h0 h.1,fun i hi=>wpOp_of_qOp hw (fun a' w' hw' h'=>ih _ a' w' hw' h') (h.2 i hi).2⟩
structure Takes (md:Region.Mode) (ops:Array Oper) (n i:Nat) (oi:Oper) (L:Array Bool→Act→Prop):Prop where
 at_:ops[i]?=some oi
 sel:Region.noSelect ops=true
 low:i<n
 wait:∀ ls,HeadInv md ops n ls→ls.getD i true=false→∀ j∈Region.ready md ops ls,j<n
 done:∀ ls a,L ls a→∀ j∈Region.ready md ops ls,n≤j
theorem Takes.head {n i:Nat} {oi:Oper} {L:Array Bool→Act→Prop} (t:Takes md ops n i oi L) {ls:Array Bool} (inv:HeadInv md ops n ls) (hr:i∈Region.ready md ops ls) {j:Nat} (hj:j∈Region.ready md ops ls):j<n :=
 t.wait ls inv (mem_ready.1 hr).1 j hj
theorem HeadQ.first {n i:Nat} {oi:Oper} {v:Value} {L:Array Bool→Act→Prop} (t:Takes md ops n i oi L):∀ (f:Nat) (ls:Array Bool) (a:Act),HeadInv md ops n ls→FreeAt md ops ls i oi→i∈Region.ready md ops ls→YieldsIn P ops C oi v a →
 HeadQ P md ops C n L f (ls.setIfInBounds i true) (a.put oi.dst v)→HeadQ P md ops C n L (f+1) ls a:=by
 intro f
 induction f with
 | zero =>
   intro ls a inv hfree hr hy H
   refine ⟨List.ne_nil_of_mem hr,fun j hj=>⟨t.head inv hr hj,?_⟩⟩
   rcases Nat.decEq j i with hne|heq
   ·exact absurd (t.done _ _ H j (ready_mono hj hne)) (by have:=t.head inv hr hj;omega)
   ·subst heq
    exact hy.qOp t.at_ H
 | succ f ih =>
   intro ls a inv hfree hr hy H
   refine ⟨List.ne_nil_of_mem hr,fun j hj=>⟨t.head inv hr hj,?_⟩⟩
   rcases Nat.decEq j i with hne|heq
   ·obtain ⟨hun,oj,hoj,hall⟩:=mem_ready.1 hj
    have hno:∀ e∈oj.after,Region.binds md e=true→e.on≠i:=fun e he hb h=>by
     have h1:=hall e he hb
     rw [h,getD_both (mem_ready.1 hr).1] at h1
     exact Bool.noConfusion h1
    have hsel:=Region.noSelect_spec t.sel
    have hput:=qOp_put hoj (hfree j oj hoj hne hun hno) (fun cs b=>hsel i oi cs b t.at_) (fun cs b=>hsel j oj cs b hoj) hy (H.2 j (ready_mono hj hne)).2
    refine qOp_mono (fun a' h=>ih _ a' (inv.set hj (t.head inv hr hj)) (hfree.set hun) (ready_mono hr (Ne.symm hne)) h.1 ?_) hput
    rw [Array.setIfInBounds_comm _ _ hne]
    exact h.2
   ·subst heq
    exact hy.qOp t.at_ H
theorem HeadQ.lex {n g:Nat} {Lq:Act→Prop} (hsel:Region.noSelect ops=true) (hs:Region.sinkB md ops n=true) (hc:Region.chainB md ops n=true) (hn:n<ops.size) (l:List Oper) :
 ∀ (k:Nat) (ls:Array Bool) (a:Act),(∀ j,j<l.length→l[j]?=ops[k+j]?)→k+l.length=n→HeadInv md ops n ls→Region.lexHead md ops g l.length k ls=true→wpQuiet P ops C Lq l a →
  HeadQ P md ops C n (fun ls' a'=>Region.seqB md ops g n ls'=true∧Lq a') l.length ls a:=by
 induction l with
 | nil =>
   intro k ls a _ hk _ hB h
   obtain rfl:k=n:=by simpa using hk
   exact ⟨hB,h⟩
 | cons o l ih =>
   intro k ls a hl hk inv hB h
   have ho:ops[k]?=some o:=by have:=hl 0 (by simp);simpa using this.symm
   rw [List.length_cons] at hk hB
   simp only [Region.lexHead,Bool.and_eq_true] at hB
   have hkn:k<n:=by omega
   have hr:k∈Region.ready md ops ls:=by simpa using hB.1.1
   obtain ⟨v,hy,hK⟩:=yieldsIn_of_qOp (K:=wpQuiet P ops C Lq l) ho (by unfold qOp;simp only [ho];exact h)
   exact HeadQ.first ⟨ho,hsel,hkn,fun ls' inv' hun j hj=>(Nat.lt_or_ge j n).elim id (fun h=>absurd hj (tail_waits hs hc hn inv' _ k rfl hkn hun j h)),fun ls' a' hL=>seqB_ready hL.1⟩ l.length ls a inv (Region.free_spec ho hB.1.2) hr hy
    (ih (k+1) _ _ (fun j hj=>by have:=hl (j+1) (by simp;omega);rw [show k+1+j=k+(j+1) by omega,← this];rfl) (by omega) (inv.set hr hkn) hB.2 hK)
end
def Cl (w:World) (w':World):Prop:=∃ p:Regrown,w'=grow (redrawn w p.d) p.os
theorem wp_region_quiet_tail {P:Program} {id:Nat} {Q:Exit→Act→World→Prop} {a:Act} {w:World} {l:List Oper} (n:Nat) (hm:P.follows .mixedOrders=true) (hB:Region.lexTailB .any l.toArray n=true)
 (h:wpQuiet P l.toArray (fun w'=>∃ p:Regrown,w'=grow (redrawn w p.d) p.os) (fun a'=>∀ w',(∃ p:Regrown,w'=grow (redrawn w p.d) p.os)→wpList P l.toArray Q (l.drop n) a' w') (l.take n) a):(Code.region id l.toArray true).wp P Q a w:=by
 simp only [Region.lexTailB,Bool.and_eq_true,decide_eq_true_eq] at hB
 obtain ⟨⟨⟨⟨hsel,hn⟩,hs⟩,hc⟩,hlex⟩:=hB
 have hn2:n<l.length:=by simpa using hn
 have e1:(l.take n).length=n:=by rw [List.length_take];omega
 have e2:(l.drop n).length=l.toArray.size-n:=by simp
 have hw:Cl w { w with drawn:=w.drawn+1 }:=⟨⟨w.drawn+1,#[]⟩,by rw [grow_empty];rfl⟩
 have inv:HeadInv .any l.toArray n (Array.replicate l.toArray.size false) :=
  ⟨by simp,fun j oj _ hl=>(by rw [getD_replicate_false] at hl;cases hl),fun t _ ht=>getD_in (by simpa using ht) (getD_replicate_false _ _)⟩
 have H:=HeadQ.lex (P:=P) (md:=.any) (g:=l.toArray.size-n) hsel hs hc hn (l.take n) 0 _ a (fun j hj=>by
  rw [e1] at hj
  simp [hj]) (by omega) inv (by rw [e1];exact hlex) h
 refine wp_region_any hm ?_
 have R:=HeadQ.run (Q':=Q) (g:=l.toArray.size-n) (fun ls a' w' hC hL=>by
  have:=wpAny_of_seq (md:=.any) (Q':=Q) (l.drop n) n ls a' w' (fun j=>by simp [List.getElem?_drop]) (by rw [e2];exact hL.1) (hL.2 w' hC)
  rwa [e2] at this) _ _ _ _ hw H
 rw [e1,show n+(l.toArray.size-n)=l.toArray.size by omega] at R
 exact R
theorem load_regrown {P:Program} {w:World} {g:Nat} {t ty:TypeId} {cs:Array Value} (hK:Bk w g t cs) {d:TypeDesc} (hu:P.underlying ty=some d) (hd:(match d with|.struct _|.array _ _=>true|_=>false)=true) (hi:(P.info? ty).map (·.size)=some cs.size) (n:Nat) (os:Array Obj) :
 (loadVar ty ⟨g,0,none⟩).run P (grow (redrawn w n) os)=.ok (.agg cs) (grow (redrawn w n) os) :=
 run_loadVar_row (grow (redrawn w n) os) g t ty cs (0,0) d (hK.nx (below_regrown w n os)) hu hd hi
theorem wpQuiet_load {P:Program} {ops:Array Oper} {rest:List Oper} {o:Oper} {a:Act} {w:World} {Q:Act→Prop} (hgd:o.guard=none) (ty:TypeId) (x:Operand) (ho:o.op=.load ty x)
 {g:Nat} {t:TypeId} {cs:Array Value} (hK:Bk w g t cs) (hx:a.eval x=.pointer (some ⟨g,0,none⟩)) {d:TypeDesc} (hu:P.underlying ty=some d) (hd:(match d with|.struct _|.array _ _=>true|_=>false)=true) (hi:(P.info? ty).map (·.size)=some cs.size)
 (h:wpQuiet P ops (fun w'=>∃ p:Regrown,w'=grow (redrawn w p.d) p.os) Q rest (a.put o.dst (.agg cs))):wpQuiet P ops (fun w'=>∃ p:Regrown,w'=grow (redrawn w p.d) p.os) Q (o::rest) a:=by
 refine wpQuiet_step fun K hK2=>?_
 have hw:Region.wanted o (yielded ops a.tmps)=true:=by unfold Region.wanted;rw [hgd]
 rw [if_pos hw]
 refine ⟨.agg cs,fun w' hw'=>?_,hK2 _ h⟩
 obtain ⟨⟨n,os⟩,rfl⟩:=hw'
 have hl:=load_regrown (P:=P) (ty:=ty) hK hu hd hi n os
 unfold Oper.quietAt execOp
 simp only [ho,hx,Instr.loadAt,Instr.sureAddr,Sem.run_bind,Sem.run_pure,Result.andThen_ok,hl]
 exact ⟨rfl,rfl⟩
theorem quiet_call {P:Program} {f:FuncId} {args:Array Value} {w:World} {d:Nat} {os:Array Obj} {v:Value} {R:Ending→World→Prop} (h:Calls P f args (grow (redrawn w d) os) R) (hR:∀ e w',R e w'→e=.returned v∧Below (grow (redrawn w d) os).heap.size (grow (redrawn w d) os) w') :
 Calls P f args (grow (redrawn w d) os) fun e w''=>e=.returned v∧∃ p:Regrown,w''=grow (redrawn w p.d) p.os:=Calls.regrown_of (h.mono hR)
theorem quiet_below {P:Program} {f:FuncId} {args:Array Value} {w:World} {d:Nat} {os:Array Obj} {v:Value} (h:Calls P f args (grow (redrawn w d) os) fun e w'=>e=.returned v∧Below (grow (redrawn w d) os).heap.size (grow (redrawn w d) os) w') :
 Calls P f args (grow (redrawn w d) os) fun e w''=>e=.returned v∧∃ p:Regrown,w''=grow (redrawn w p.d) p.os:=Calls.regrown_of h
theorem quiet_eq {P:Program} {f:FuncId} {args:Array Value} {w:World} {d:Nat} {os:Array Obj} {v:Value} (h:Calls P f args (grow (redrawn w d) os) fun e w'=>e=.returned v∧grow (redrawn w d) os=w') :
 Calls P f args (grow (redrawn w d) os) fun e w''=>e=.returned v∧∃ p:Regrown,w''=grow (redrawn w p.d) p.os:=h.mono fun e w' ⟨h1,h2⟩=>⟨h1,⟨d,os⟩,h2.symm⟩
end Go.Proofs.YtjbelhpgbcnlmaaGreat
end
section
set_option linter.unusedVariables false
namespace Go.Proofs.YtjbelhpgbcnlmaaGreat
open Go.RowKit
def SlP (C:Nat) (lo:Nat) (w:World) (v:Value) (px:List Int):Prop :=
 ∃ (A:Option Addr) (n c:Nat) (L:List Int),v=.slice A n c∧L.length=n∧RdL w lo A (L.map (Value.int .u8))∧C≤n∧n≤4∧n≤c∧L.take C=px
section
variable {C lo:Nat} {w w':World} {v:Value} {px:List Int}
theorem SlP.keep (h:SlP C lo w v px) (hz:w.heap.size≤w'.heap.size) (hk:∀ p:Addr,lo≤p.block→p.block<w.heap.size→w'.cell? p=w.cell? p):SlP C lo w' v px:=by
 obtain ⟨A,n,c,L,h1,h2,h3,h4⟩:=h
 exact ⟨A,n,c,L,h1,h2,h3.keep hz hk,h4⟩
theorem SlP.nx (h:SlP C lo w v px) (hb:Below w.heap.size w w'):SlP C lo w' v px:=h.keep hb.size fun p _ hp=>hb.cell hp
theorem SlP.set (h:SlP C lo w v px) {g i:Nat} (hg:g<lo) (u:Value):SlP C lo (w.setCell ⟨g,i,none⟩ u) v px :=
 h.keep (by simp) fun p hp _=>World.cell?_setCell_other w ⟨g,i,none⟩ p u (fun e=>by subst e;exact absurd hp (by simpa using hg))
theorem SlP.gb (h:SlP C lo w v px) {g:Nat} (hg:g<lo) (hb:w.grownBy w' (some g)):SlP C lo w' v px :=
 h.keep hb.size fun p hp hp2=>World.cell?_of_block (hb.block p.block hp2 (fun e=>by injection e with e;omega))
theorem SlP.less (h:SlP C lo w v px) {lo':Nat} (hl:lo'≤lo):SlP C lo' w v px:=by
 obtain ⟨A,n,c,L,h1,h2,h3,h4⟩:=h
 exact ⟨A,n,c,L,h1,h2,h3.less hl,h4⟩
end
theorem PxP.sl {m:Im} {mo c0 c1 c2 c3 x y:Int} {w w':World} {e:Ending} (h:PxP m mo c0 c1 c2 c3 x y w e w'):∃ v,e=.returned v∧(∃ A n c,v=.slice A n c)∧SlP m.C.toNat w.heap.size w' v (pxM m mo c0 c1 c2 c3 x y)∧Below w.heap.size w w':=by
 obtain ⟨A,n,c,L,h1,h2,h3,h4,h5,h6,h7,h8⟩:=h
 exact ⟨_,h1,⟨A,n,c,rfl⟩,⟨A,n,c,L,rfl,h2,h3,h4,h5,h6,h7⟩,h8⟩
def lkA (S:Nat→Value) (p:Nat→Int) (k:Nat):Array Value :=
 let s:=fun j=>if j<k then S j else .slice none 0 0
 let q:=fun j=>Value.int .i64 (if j<k then p j else 0)
 #[s 0,s 1,s 2,s 3,q 0,q 1,q 2,q 3]
theorem ar_size:(Tryz.prog.info? 213).map (·.size)=some 8:=by kernel_rfl
def w4 (f g:Int) (j:Nat):Int:=(if j%2=0 then 65536-f else f)*(if j/2=0 then 65536-g else g)
theorem w4_bd {f g:Int} (hf:0≤f∧f≤65535) (hg:0≤g∧g≤65535) (j:Nat):0≤w4 f g j∧w4 f g j≤4294967296:=by
 unfold w4
 have hx:∀ a b:Int,0≤a→a≤65536→0≤b→b≤65536→0≤a*b∧a*b≤4294967296:=fun a b h1 h2 h3 h4=>⟨Int.mul_nonneg h1 h3,by have:=Int.mul_le_mul h2 h4 h3 (by omega);omega⟩
 split <;> split <;> exact hx _ _ (by omega) (by omega) (by omega) (by omega)
theorem lk0 (S:Nat→Value) (p:Nat→Int):lkA S p 0=#[.slice none 0 0,.slice none 0 0,.slice none 0 0,.slice none 0 0,.int .i64 0,.int .i64 0,.int .i64 0,.int .i64 0]:=by simp [lkA]
theorem lk1 (S:Nat→Value) (p:Nat→Int):lkA S p 1=#[S 0,.slice none 0 0,.slice none 0 0,.slice none 0 0,.int .i64 (p 0),.int .i64 0,.int .i64 0,.int .i64 0]:=by simp [lkA]
theorem lk2 (S:Nat→Value) (p:Nat→Int):lkA S p 2=#[S 0,S 1,.slice none 0 0,.slice none 0 0,.int .i64 (p 0),.int .i64 (p 1),.int .i64 0,.int .i64 0]:=by simp [lkA]
theorem lk3 (S:Nat→Value) (p:Nat→Int):lkA S p 3=#[S 0,S 1,S 2,.slice none 0 0,.int .i64 (p 0),.int .i64 (p 1),.int .i64 (p 2),.int .i64 0]:=by simp [lkA]
theorem lk4 (S:Nat→Value) (p:Nat→Int):lkA S p 4=#[S 0,S 1,S 2,S 3,.int .i64 (p 0),.int .i64 (p 1),.int .i64 (p 2),.int .i64 (p 3)]:=by simp [lkA]
theorem lkA_up {S:Nat→Value} {p:Nat→Int} {k:Nat} (v:Value) (hk:k<4):((lkA S p k).setIfInBounds k v).setIfInBounds (4+k) (.int .i64 (p k))=lkA (fun j=>if j=k then v else S j) p (k+1):=by
 have:k=0∨k=1∨k=2∨k=3:=by omega
 rcases this with rfl|rfl|rfl|rfl <;> simp [lkA]
theorem lk_ok {S:Nat→Value} {p:Nat→Int} (h:∀ j,j<4→∃ A n c,S j=.slice A n c):(lkA S p 4).all (·.oneCell')=true:=by
 obtain ⟨A0,n0,c0,e0⟩:=h 0 (by omega)
 obtain ⟨A1,n1,c1,e1⟩:=h 1 (by omega)
 obtain ⟨A2,n2,c2,e2⟩:=h 2 (by omega)
 obtain ⟨A3,n3,c3,e3⟩:=h 3 (by omega)
 simp [lkA,e0,e1,e2,e3,Value.oneCell']
set_option maxRecDepth 100000 in
set_option maxHeartbeats 16000000 in
theorem llook_any (vw:Value) (px:Int→Int→List Int) (C:Nat) (u v:Int) (w:World) (hu:-70368744177664≤u∧u≤70368744177664) (hv:-70368744177664≤v∧v≤70368744177664)
 (hJ:∀ (w':World) (x y:Int),Below w.heap.size w w'→(-70368744177664≤x∧x≤70368744177664)→(-70368744177664≤y∧y≤70368744177664)→Calls Tryz.prog 100 #[vw,.int .i64 x,.int .i64 y] w' fun e w''=>∃ v,e=.returned v∧(∃ A n c,v=.slice A n c)∧SlP C w'.heap.size w'' v (px x y)∧Below w'.heap.size w' w'') :
 Calls Tryz.prog 157 #[.func (.func 100) #[vw] #[],.int .i64 u,.int .i64 v] w fun e w'=>∃ S:Nat→Value,e=.returned (.agg (lkA S (w4 (u%65536) (v%65536)) 4))∧(∀ j,j<4→(∃ A n c,S j=.slice A n c)∧SlP C w.heap.size w' (S j) (px (u/65536+(j%2:Nat)) (v/65536+(j/2:Nat))))∧Below w.heap.size w w':=by
 have hS1:=fun w'=>wsplit_any u w' (by omega) (by omega)
 have hS2:=fun w'=>wsplit_any v w' (by omega) (by omega)
 have hf:0≤u%65536∧u%65536≤65535:=by omega
 have hg:0≤v%65536∧v%65536≤65535:=by omega
 have hi:-1073741824≤u/65536∧u/65536≤1073741824:=by omega
 have hj:-1073741824≤v/65536∧v/65536≤1073741824:=by omega
 have hW:=w4_bd hf hg
 have hA1:=fun w'=>wlin_any (u%65536) w' (by omega) (by omega)
 have hA2:=fun w'=>wlin_any (v%65536) w' (by omega) (by omega)
 have HW:Hid (∀ j,w4 (u%65536) (v%65536) j=(if j%2=0 then 65536-u%65536 else u%65536)*(if j/2=0 then 65536-v%65536 else v%65536)):=fun j=>rfl
 generalize u%65536=f at *
 generalize v%65536=g at *
 generalize u/65536=i at *
 generalize v/65536=q at *
 generalize w4 f g=p at *
 obtain ⟨x0,hx0⟩:∃ x,65536-f=x:=⟨_,rfl⟩
 obtain ⟨y0,hy0⟩:∃ x,65536-g=x:=⟨_,rfl⟩
 rw [hx0] at hA1 HW
 rw [hy0] at hA2 HW
 have HP0:=Lib.hid (HW.out 0)
 have HP1:=Lib.hid (HW.out 1)
 have HP2:=Lib.hid (HW.out 2)
 have HP3:=Lib.hid (HW.out 3)
 have hJ00:=fun (w':World) (hb:Below w.heap.size w w')=>hJ w' i q hb (by omega) (by omega)
 have hJ10:=fun (w':World) (hb:Below w.heap.size w w')=>hJ w' (i+1) q hb (by omega) (by omega)
 have hJ01:=fun (w':World) (hb:Below w.heap.size w w')=>hJ w' i (q+1) hb (by omega) (by omega)
 have hJ11:=fun (w':World) (hb:Below w.heap.size w w')=>hJ w' (i+1) (q+1) hb (by omega) (by omega)
 have v1:wrap64 i=i:=IntWalk.wrap64_in _ ⟨by omega,by omega⟩
 have v2:wrap64 (i+1)=i+1:=IntWalk.wrap64_in _ ⟨by omega,by omega⟩
 have v3:wrap64 q=q:=IntWalk.wrap64_in _ ⟨by omega,by omega⟩
 have v4:wrap64 (q+1)=q+1:=IntWalk.wrap64_in _ ⟨by omega,by omega⟩
 have HWB:=Lib.hid hW
 have hL:=(Lie.start w).alloc #[.slice none 0 0,.slice none 0 0,.slice none 0 0,.slice none 0 0,.int .i64 0,.int .i64 0,.int .i64 0,.int .i64 0] 213
 clear hu hv hf hg hi hj hJ HW hx0 hy0 hW
 go_enter Tryz.func157,Tryz.ntmps157
 go_wp2_with (first
  | (go_at_call 159;(with_reducible refine (hS1 _).mono ?_);rintro e w1 ⟨rfl,rfl⟩)
  | (go_at_call 159;(with_reducible refine (hS2 _).mono ?_);rintro e w1 ⟨rfl,rfl⟩)
  | (go_at_call 219;(with_reducible refine (hA1 _).mono ?_);rintro e w1 ⟨rfl,hb1⟩;have hL1:=(hL.nx hb1).alloc #[.int .i64 x0,.int .i64 f] 275)
  | (go_at_call 219;(with_reducible refine (hA2 _).mono ?_);rintro e w2 ⟨rfl,hb2⟩;have hL2:=((hL1.nx hb2).alloc #[.int .i64 y0,.int .i64 g] 275).alloc #[.slice none 0 0,.slice none 0 0,.slice none 0 0,.slice none 0 0,.int .i64 0,.int .i64 0,.int .i64 0,.int .i64 0] 213))
 clear hS1 hS2 hA1 hA2 hL
 have hsz1:=hL1.k 0 (by simp)
 have hlt1:=hsz1.lt
 have hge1:=hb1.size
 have hge2:=hb2.size
 simp only [World.size_alloc] at hL2 hge1 hge2 hlt1
 clear hsz1 hb1 hb2 hL1
 generalize (w2.alloc (.cells #[.int .i64 y0,.int .i64 g] 275)).alloc (.cells #[.slice none 0 0,.slice none 0 0,.slice none 0 0,.slice none 0 0,.int .i64 0,.int .i64 0,.int .i64 0,.int .i64 0] 213)=w5 at *
 obtain ⟨g11,hg11⟩:∃ g11,w1.heap.size=g11:=⟨_,rfl⟩
 obtain ⟨g13,hg13⟩:∃ g13,w2.heap.size=g13:=⟨_,rfl⟩
 obtain ⟨g15,hg15⟩:∃ g15,g13+1=g15:=⟨_,rfl⟩
 rw [hg11,hg13,hg15] at hL2
 rw [hg11,hg13] at hge2
 rw [hg11] at hge1
 simp only [hg11,hg13,hg15]
 have n1:w.heap.size<g11:=by omega
 have n2:g11<g13:=by omega
 have n3:g13<g15:=by omega
 clear hg11 hg13 hg15 hge1 hge2 hlt1
 go_loopw [37] (fun iv wr=>∃ (k:Nat) (S:Nat→Value),k≤4∧iv=.int .i64 k∧(∀ j,j<k→(∃ A n c,S j=.slice A n c)∧SlP C (g15+1) wr (S j) (px (i+(j%2:Nat)) (q+(j/2:Nat))))∧Lie w [(g15,213,lkA S p k),(g13,275,#[.int .i64 y0,.int .i64 g]),(g11,275,#[.int .i64 x0,.int .i64 f]),(w.heap.size,213,#[.slice none 0 0,.slice none 0 0,.slice none 0 0,.slice none 0 0,.int .i64 0,.int .i64 0,.int .i64 0,.int .i64 0])] wr) (fun iv _=>4-(intOf iv).toNat)
 case atStart=>exact ⟨0,fun _=>.slice none 0 0,by omega,rfl,fun j hj=>absurd hj (by omega),by rw [lk0];exact hL2⟩
 case round =>
  clear hL2
  obtain ⟨k,S,hk,rfl,hSl,hLi⟩:=hrel
  rcases (show k=0∨k=1∨k=2∨k=3∨k=4 by omega) with rfl|rfl|rfl|rfl|rfl
  ·have k15:Bk wr g15 213 (lkA S p 0):=hLi.k 0 (by simp)
   have hp:=HP0.out
   have hpb:=HWB.out 0
   have vp:wrap64 (x0*y0)=p 0:=by
    have e:p 0=x0*y0:=hp
    rw [← e];exact IntWalk.wrap64_in _ ⟨by omega,by omega⟩
   clear hp hpb hJ10 hJ01 hJ11
   go_upto_region 10 with (go_at_call 100;(with_reducible refine (hJ00 _ hLi.bel).mono ?_);rintro e w6 ⟨v6,rfl,⟨A6,n6,c6,rfl⟩,hS6,hb6⟩;have k156:=k15.nx hb6;have e156:=k156;rw [lk0] at e156;obtain ⟨d0,d1,d2,d3,d4,d5,d6,d7⟩:=e156.cell8;have f0:=e156.frozen 0)
   have hLi6:=hLi.nx hb6
   have hkl:=k15.lt
   have hS6':=(hS6.less (lo':=g15+1) (by omega)).set (g:=g15) (i:=0) (by omega) (.slice A6 n6 c6)
   have hSl6:∀ j,j<0→(∃ A n c,S j=.slice A n c)∧SlP C (g15+1) (w6.setCell ⟨g15,0,none⟩ (.slice A6 n6 c6)) (S j) (px (i+(j%2:Nat)) (q+(j/2:Nat))):=fun j hj=>⟨(hSl j hj).1,((hSl j hj).2.nx hb6).set (by omega) _⟩
   have k7:=k156.set 0 (.slice A6 n6 c6)
   have hLi7:=hLi6.set (gb_setCell (World.grownBy.refl w6 (some g15)) (p:=⟨g15,0,none⟩) (.inl rfl) (.slice A6 n6 c6)) k7 (by omega) (fun x hx=>by simp only [List.mem_cons,List.not_mem_nil,or_false] at hx;rcases hx with rfl|rfl|rfl <;> simp <;> omega)
   clear hS6 hb6 hLi hLi6 hSl k15 k156 e156 d0 d1 d2 d3 d4 d5 d6 d7 f0
   generalize w6.setCell ⟨g15,0,none⟩ (.slice A6 n6 c6)=w7 at *
   have k13:Bk w7 g13 275 #[.int .i64 y0,.int .i64 g]:=hLi7.k 1 (by simp)
   have k11:Bk w7 g11 275 #[.int .i64 x0,.int .i64 f]:=hLi7.k 2 (by simp)
   obtain ⟨a0,a1⟩:=k11.cell2
   obtain ⟨b0,b1⟩:=k13.cell2
   have r0:=fun (n:Nat) (os:Array Obj)=>cell_regrown a0 n os
   have r1:=fun (n:Nat) (os:Array Obj)=>cell_regrown a1 n os
   have r2:=fun (n:Nat) (os:Array Obj)=>cell_regrown b0 n os
   have r3:=fun (n:Nat) (os:Array Obj)=>cell_regrown b1 n os
   clear a0 a1 b0 b1
   refine wp_region_quiet_tail 12 (by kernel_rfl) (by kernel_rfl) ?_
   simp only [List.take_succ_cons,List.take_zero,List.drop_succ_cons,List.drop_zero]
   repeat (first
    | go_big_quiet_step (fail)
    | quiet_step (fail))
   refine wpQuiet_nil ?_
   intro _ hw'
   obtain ⟨⟨d,os⟩,hw''⟩:=hw'
   subst hw''
   have hbx:=below_regrown w7 d os
   generalize Go.Sort.grow (redrawn w7 d) os=wx at *
   have hLx:=hLi7.nx hbx
   have kx:=k7.nx hbx
   have ex:=kx
   rw [lk0] at ex
   simp only [List.setIfInBounds_toArray,List.set_cons_zero] at ex
   obtain ⟨d0,d1,d2,d3,d4,d5,d6,d7⟩:=ex.cell8
   have f0:=ex.frozen (4+0)
   clear r0 r1 r2 r3
   go_wp2_with fail
   have k8:=kx.set (4+0) (.int .i64 (p 0))
   rw [lkA_up _ (by omega)] at k8
   have hLi8:=hLx.set (gb_setCell (World.grownBy.refl wx (some g15)) (p:=⟨g15,4+0,none⟩) (.inl rfl) (.int .i64 (p 0))) k8 (by omega) (fun x hx=>by simp only [List.mem_cons,List.not_mem_nil,or_false] at hx;rcases hx with rfl|rfl|rfl <;> simp <;> omega)
   refine ⟨⟨1,fun j=>if j=0 then .slice A6 n6 c6 else S j,by omega,by go_num,fun j hj=>?_,hLi8⟩,by simp [intOf]⟩
   by_cases hjk:j=0
   ·subst hjk
    simp only [if_pos]
    exact ⟨⟨A6,n6,c6,rfl⟩,by simpa using (hS6'.nx hbx).set (g:=g15) (i:=4+0) (by omega) (.int .i64 (p 0))⟩
   ·simp only [if_neg hjk]
    obtain ⟨h1,h2⟩:=hSl6 j (by omega)
    exact ⟨h1,(h2.nx hbx).set (by omega) _⟩
  ·have k15:Bk wr g15 213 (lkA S p 1):=hLi.k 0 (by simp)
   have hp:=HP1.out
   have hpb:=HWB.out 1
   have vp:wrap64 (f*y0)=p 1:=by
    have e:p 1=f*y0:=hp
    rw [← e];exact IntWalk.wrap64_in _ ⟨by omega,by omega⟩
   clear hp hpb hJ00 hJ01 hJ11
   go_upto_region 10 with (go_at_call 100;(with_reducible refine (hJ10 _ hLi.bel).mono ?_);rintro e w6 ⟨v6,rfl,⟨A6,n6,c6,rfl⟩,hS6,hb6⟩;have k156:=k15.nx hb6;have e156:=k156;rw [lk1] at e156;obtain ⟨d0,d1,d2,d3,d4,d5,d6,d7⟩:=e156.cell8;have f0:=e156.frozen 1)
   have hLi6:=hLi.nx hb6
   have hkl:=k15.lt
   have hS6':=(hS6.less (lo':=g15+1) (by omega)).set (g:=g15) (i:=1) (by omega) (.slice A6 n6 c6)
   have hSl6:∀ j,j<1→(∃ A n c,S j=.slice A n c)∧SlP C (g15+1) (w6.setCell ⟨g15,1,none⟩ (.slice A6 n6 c6)) (S j) (px (i+(j%2:Nat)) (q+(j/2:Nat))):=fun j hj=>⟨(hSl j hj).1,((hSl j hj).2.nx hb6).set (by omega) _⟩
   have k7:=k156.set 1 (.slice A6 n6 c6)
   have hLi7:=hLi6.set (gb_setCell (World.grownBy.refl w6 (some g15)) (p:=⟨g15,1,none⟩) (.inl rfl) (.slice A6 n6 c6)) k7 (by omega) (fun x hx=>by simp only [List.mem_cons,List.not_mem_nil,or_false] at hx;rcases hx with rfl|rfl|rfl <;> simp <;> omega)
   clear hS6 hb6 hLi hLi6 hSl k15 k156 e156 d0 d1 d2 d3 d4 d5 d6 d7 f0
   generalize w6.setCell ⟨g15,1,none⟩ (.slice A6 n6 c6)=w7 at *
   have k13:Bk w7 g13 275 #[.int .i64 y0,.int .i64 g]:=hLi7.k 1 (by simp)
   have k11:Bk w7 g11 275 #[.int .i64 x0,.int .i64 f]:=hLi7.k 2 (by simp)
   obtain ⟨a0,a1⟩:=k11.cell2
   obtain ⟨b0,b1⟩:=k13.cell2
   have r0:=fun (n:Nat) (os:Array Obj)=>cell_regrown a0 n os
   have r1:=fun (n:Nat) (os:Array Obj)=>cell_regrown a1 n os
   have r2:=fun (n:Nat) (os:Array Obj)=>cell_regrown b0 n os
   have r3:=fun (n:Nat) (os:Array Obj)=>cell_regrown b1 n os
   clear a0 a1 b0 b1
   refine wp_region_quiet_tail 12 (by kernel_rfl) (by kernel_rfl) ?_
   simp only [List.take_succ_cons,List.take_zero,List.drop_succ_cons,List.drop_zero]
   repeat (first
    | go_big_quiet_step (fail)
    | quiet_step (fail))
   refine wpQuiet_nil ?_
   intro _ hw'
   obtain ⟨⟨d,os⟩,hw''⟩:=hw'
   subst hw''
   have hbx:=below_regrown w7 d os
   generalize Go.Sort.grow (redrawn w7 d) os=wx at *
   have hLx:=hLi7.nx hbx
   have kx:=k7.nx hbx
   have ex:=kx
   rw [lk1] at ex
   simp only [List.setIfInBounds_toArray,List.set_cons_zero,List.set_cons_succ] at ex
   obtain ⟨d0,d1,d2,d3,d4,d5,d6,d7⟩:=ex.cell8
   have f0:=ex.frozen (4+1)
   clear r0 r1 r2 r3
   go_wp2_with fail
   have k8:=kx.set (4+1) (.int .i64 (p 1))
   rw [lkA_up _ (by omega)] at k8
   have hLi8:=hLx.set (gb_setCell (World.grownBy.refl wx (some g15)) (p:=⟨g15,4+1,none⟩) (.inl rfl) (.int .i64 (p 1))) k8 (by omega) (fun x hx=>by simp only [List.mem_cons,List.not_mem_nil,or_false] at hx;rcases hx with rfl|rfl|rfl <;> simp <;> omega)
   refine ⟨⟨2,fun j=>if j=1 then .slice A6 n6 c6 else S j,by omega,by go_num,fun j hj=>?_,hLi8⟩,by simp [intOf]⟩
   by_cases hjk:j=1
   ·subst hjk
    simp only [if_pos]
    exact ⟨⟨A6,n6,c6,rfl⟩,by simpa using (hS6'.nx hbx).set (g:=g15) (i:=4+1) (by omega) (.int .i64 (p 1))⟩
   ·simp only [if_neg hjk]
    obtain ⟨h1,h2⟩:=hSl6 j (by omega)
    exact ⟨h1,(h2.nx hbx).set (by omega) _⟩
  ·have k15:Bk wr g15 213 (lkA S p 2):=hLi.k 0 (by simp)
   have hp:=HP2.out
   have hpb:=HWB.out 2
   have vp:wrap64 (x0*g)=p 2:=by
    have e:p 2=x0*g:=hp
    rw [← e];exact IntWalk.wrap64_in _ ⟨by omega,by omega⟩
   clear hp hpb hJ00 hJ10 hJ11
   go_upto_region 10 with (go_at_call 100;(with_reducible refine (hJ01 _ hLi.bel).mono ?_);rintro e w6 ⟨v6,rfl,⟨A6,n6,c6,rfl⟩,hS6,hb6⟩;have k156:=k15.nx hb6;have e156:=k156;rw [lk2] at e156;obtain ⟨d0,d1,d2,d3,d4,d5,d6,d7⟩:=e156.cell8;have f0:=e156.frozen 2)
   have hLi6:=hLi.nx hb6
   have hkl:=k15.lt
   have hS6':=(hS6.less (lo':=g15+1) (by omega)).set (g:=g15) (i:=2) (by omega) (.slice A6 n6 c6)
   have hSl6:∀ j,j<2→(∃ A n c,S j=.slice A n c)∧SlP C (g15+1) (w6.setCell ⟨g15,2,none⟩ (.slice A6 n6 c6)) (S j) (px (i+(j%2:Nat)) (q+(j/2:Nat))):=fun j hj=>⟨(hSl j hj).1,((hSl j hj).2.nx hb6).set (by omega) _⟩
   have k7:=k156.set 2 (.slice A6 n6 c6)
   have hLi7:=hLi6.set (gb_setCell (World.grownBy.refl w6 (some g15)) (p:=⟨g15,2,none⟩) (.inl rfl) (.slice A6 n6 c6)) k7 (by omega) (fun x hx=>by simp only [List.mem_cons,List.not_mem_nil,or_false] at hx;rcases hx with rfl|rfl|rfl <;> simp <;> omega)
   clear hS6 hb6 hLi hLi6 hSl k15 k156 e156 d0 d1 d2 d3 d4 d5 d6 d7 f0
   generalize w6.setCell ⟨g15,2,none⟩ (.slice A6 n6 c6)=w7 at *
   have k13:Bk w7 g13 275 #[.int .i64 y0,.int .i64 g]:=hLi7.k 1 (by simp)
   have k11:Bk w7 g11 275 #[.int .i64 x0,.int .i64 f]:=hLi7.k 2 (by simp)
   obtain ⟨a0,a1⟩:=k11.cell2
   obtain ⟨b0,b1⟩:=k13.cell2
   have r0:=fun (n:Nat) (os:Array Obj)=>cell_regrown a0 n os
   have r1:=fun (n:Nat) (os:Array Obj)=>cell_regrown a1 n os
   have r2:=fun (n:Nat) (os:Array Obj)=>cell_regrown b0 n os
   have r3:=fun (n:Nat) (os:Array Obj)=>cell_regrown b1 n os
   clear a0 a1 b0 b1
   refine wp_region_quiet_tail 12 (by kernel_rfl) (by kernel_rfl) ?_
   simp only [List.take_succ_cons,List.take_zero,List.drop_succ_cons,List.drop_zero]
   repeat (first
    | go_big_quiet_step (fail)
    | quiet_step (fail))
   refine wpQuiet_nil ?_
   intro _ hw'
   obtain ⟨⟨d,os⟩,hw''⟩:=hw'
   subst hw''
   have hbx:=below_regrown w7 d os
   generalize Go.Sort.grow (redrawn w7 d) os=wx at *
   have hLx:=hLi7.nx hbx
   have kx:=k7.nx hbx
   have ex:=kx
   rw [lk2] at ex
   simp only [List.setIfInBounds_toArray,List.set_cons_zero,List.set_cons_succ] at ex
   obtain ⟨d0,d1,d2,d3,d4,d5,d6,d7⟩:=ex.cell8
   have f0:=ex.frozen (4+2)
   clear r0 r1 r2 r3
   go_wp2_with fail
   have k8:=kx.set (4+2) (.int .i64 (p 2))
   rw [lkA_up _ (by omega)] at k8
   have hLi8:=hLx.set (gb_setCell (World.grownBy.refl wx (some g15)) (p:=⟨g15,4+2,none⟩) (.inl rfl) (.int .i64 (p 2))) k8 (by omega) (fun x hx=>by simp only [List.mem_cons,List.not_mem_nil,or_false] at hx;rcases hx with rfl|rfl|rfl <;> simp <;> omega)
   refine ⟨⟨3,fun j=>if j=2 then .slice A6 n6 c6 else S j,by omega,by go_num,fun j hj=>?_,hLi8⟩,by simp [intOf]⟩
   by_cases hjk:j=2
   ·subst hjk
    simp only [if_pos]
    exact ⟨⟨A6,n6,c6,rfl⟩,by simpa using (hS6'.nx hbx).set (g:=g15) (i:=4+2) (by omega) (.int .i64 (p 2))⟩
   ·simp only [if_neg hjk]
    obtain ⟨h1,h2⟩:=hSl6 j (by omega)
    exact ⟨h1,(h2.nx hbx).set (by omega) _⟩
  ·have k15:Bk wr g15 213 (lkA S p 3):=hLi.k 0 (by simp)
   have hp:=HP3.out
   have hpb:=HWB.out 3
   have vp:wrap64 (f*g)=p 3:=by
    have e:p 3=f*g:=hp
    rw [← e];exact IntWalk.wrap64_in _ ⟨by omega,by omega⟩
   clear hp hpb hJ00 hJ10 hJ01
   go_upto_region 10 with (go_at_call 100;(with_reducible refine (hJ11 _ hLi.bel).mono ?_);rintro e w6 ⟨v6,rfl,⟨A6,n6,c6,rfl⟩,hS6,hb6⟩;have k156:=k15.nx hb6;have e156:=k156;rw [lk3] at e156;obtain ⟨d0,d1,d2,d3,d4,d5,d6,d7⟩:=e156.cell8;have f0:=e156.frozen 3)
   have hLi6:=hLi.nx hb6
   have hkl:=k15.lt
   have hS6':=(hS6.less (lo':=g15+1) (by omega)).set (g:=g15) (i:=3) (by omega) (.slice A6 n6 c6)
   have hSl6:∀ j,j<3→(∃ A n c,S j=.slice A n c)∧SlP C (g15+1) (w6.setCell ⟨g15,3,none⟩ (.slice A6 n6 c6)) (S j) (px (i+(j%2:Nat)) (q+(j/2:Nat))):=fun j hj=>⟨(hSl j hj).1,((hSl j hj).2.nx hb6).set (by omega) _⟩
   have k7:=k156.set 3 (.slice A6 n6 c6)
   have hLi7:=hLi6.set (gb_setCell (World.grownBy.refl w6 (some g15)) (p:=⟨g15,3,none⟩) (.inl rfl) (.slice A6 n6 c6)) k7 (by omega) (fun x hx=>by simp only [List.mem_cons,List.not_mem_nil,or_false] at hx;rcases hx with rfl|rfl|rfl <;> simp <;> omega)
   clear hS6 hb6 hLi hLi6 hSl k15 k156 e156 d0 d1 d2 d3 d4 d5 d6 d7 f0
   generalize w6.setCell ⟨g15,3,none⟩ (.slice A6 n6 c6)=w7 at *
   have k13:Bk w7 g13 275 #[.int .i64 y0,.int .i64 g]:=hLi7.k 1 (by simp)
   have k11:Bk w7 g11 275 #[.int .i64 x0,.int .i64 f]:=hLi7.k 2 (by simp)
   obtain ⟨a0,a1⟩:=k11.cell2
   obtain ⟨b0,b1⟩:=k13.cell2
   have r0:=fun (n:Nat) (os:Array Obj)=>cell_regrown a0 n os
   have r1:=fun (n:Nat) (os:Array Obj)=>cell_regrown a1 n os
   have r2:=fun (n:Nat) (os:Array Obj)=>cell_regrown b0 n os
   have r3:=fun (n:Nat) (os:Array Obj)=>cell_regrown b1 n os
   clear a0 a1 b0 b1
   refine wp_region_quiet_tail 12 (by kernel_rfl) (by kernel_rfl) ?_
   simp only [List.take_succ_cons,List.take_zero,List.drop_succ_cons,List.drop_zero]
   repeat (first
    | go_big_quiet_step (fail)
    | quiet_step (fail))
   refine wpQuiet_nil ?_
   intro _ hw'
   obtain ⟨⟨d,os⟩,hw''⟩:=hw'
   subst hw''
   have hbx:=below_regrown w7 d os
   generalize Go.Sort.grow (redrawn w7 d) os=wx at *
   have hLx:=hLi7.nx hbx
   have kx:=k7.nx hbx
   have ex:=kx
   rw [lk3] at ex
   simp only [List.setIfInBounds_toArray,List.set_cons_zero,List.set_cons_succ] at ex
   obtain ⟨d0,d1,d2,d3,d4,d5,d6,d7⟩:=ex.cell8
   have f0:=ex.frozen (4+3)
   clear r0 r1 r2 r3
   go_wp2_with fail
   have k8:=kx.set (4+3) (.int .i64 (p 3))
   rw [lkA_up _ (by omega)] at k8
   have hLi8:=hLx.set (gb_setCell (World.grownBy.refl wx (some g15)) (p:=⟨g15,4+3,none⟩) (.inl rfl) (.int .i64 (p 3))) k8 (by omega) (fun x hx=>by simp only [List.mem_cons,List.not_mem_nil,or_false] at hx;rcases hx with rfl|rfl|rfl <;> simp <;> omega)
   refine ⟨⟨4,fun j=>if j=3 then .slice A6 n6 c6 else S j,by omega,by go_num,fun j hj=>?_,hLi8⟩,by simp [intOf]⟩
   by_cases hjk:j=3
   ·subst hjk
    simp only [if_pos]
    exact ⟨⟨A6,n6,c6,rfl⟩,by simpa using (hS6'.nx hbx).set (g:=g15) (i:=4+3) (by omega) (.int .i64 (p 3))⟩
   ·simp only [if_neg hjk]
    obtain ⟨h1,h2⟩:=hSl6 j (by omega)
    exact ⟨h1,(h2.nx hbx).set (by omega) _⟩
  ·have k15:Bk wr g15 213 (lkA S p 4):=hLi.k 0 (by simp)
   have k6:Bk wr w.heap.size 213 #[.slice none 0 0,.slice none 0 0,.slice none 0 0,.slice none 0 0,.int .i64 0,.int .i64 0,.int .i64 0,.int .i64 0]:=hLi.k 3 (by simp)
   have hbz:=hLi.bel
   rw [lk4] at k15
   go_wp2_with (first
    | (refine ldB rfl _ _ rfl k15 rfl Tryz.underlying213 rfl ar_size ?_)
    | (refine stB rfl _ _ _ rfl k6 _ rfl rfl ar_size rfl (by rw [← lk4];exact lk_ok fun j hj=>(hSl j hj).1) ?_;intro w6 k66 hg6 hs6))
   refine bodyPost_ret (res_cell rfl k66 rfl Tryz.underlying213 rfl ar_size) rfl ?_
   refine ⟨S,by rw [lk4],fun j hj=>⟨(hSl j hj).1,?_⟩,below_of_gb hbz hg6 (Nat.le_refl _) hbz.size⟩
   exact ((hSl j hj).2.gb (by omega) hg6).less (by omega)
end Go.Proofs.YtjbelhpgbcnlmaaGreat
end
