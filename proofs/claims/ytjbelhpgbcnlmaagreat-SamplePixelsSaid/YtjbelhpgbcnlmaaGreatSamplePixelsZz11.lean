/- Several texts in one: A region that draws its order: its head in whatever order, each operation quiet; what stands behind it comes after the head, in whatever order. -/
import Derived.Test.YtjbelhpgbcnlmaaGreatSamplePixelsZz8
section
set_option linter.unusedVariables false
namespace Go.Proofs.YtjbelhpgbcnlmaaGreat
open Go.RowKit Go.Sort
section
variable {P:Program} {ops:Array Oper} {md:Region.Mode} {C:World→Prop}
def reachB (md:Region.Mode) (ops:Array Oper):Nat→Nat→Nat→Bool
 | 0,_,_=>false
 | f+1,t,i=>match ops[t]? with
   | none=>false
   | some o=>o.after.any fun e=>Region.binds md e&&(e.on==i||reachB md ops f e.on i)
def behindB (md:Region.Mode) (ops:Array Oper) (n f:Nat):Bool:=(List.range ops.size).all fun t=>decide (t<n)||(List.range n).all fun i=>reachB md ops f t i
theorem reach_listed {n:Nat} {ls:Array Bool} (inv:HeadInv md ops n ls) {i:Nat} (f:Nat):∀ t,reachB md ops f t i=true→(∀ o,ops[t]?=some o→∀ e∈o.after,Region.binds md e=true→ls.getD e.on false=true)→ls.getD i false=true:=by
 induction f with
 | zero=>intro t h;cases h
 | succ f ih =>
   intro t h hd
   unfold reachB at h
   split at h
   ·cases h
   ·rename_i o ho
    obtain ⟨e,he,hb⟩:=Array.any_eq_true'.1 h
    simp only [Bool.and_eq_true,Bool.or_eq_true,beq_iff_eq] at hb
    have hl:=hd o ho e he hb.1
    rcases hb.2 with h1|h1
    ·rw [← h1];exact hl
    ·exact ih e.on h1 (fun o2 ho2 e2 he2 hb2=>inv.closed e.on o2 ho2 hl e2 he2 hb2)
theorem behind_lt {n f:Nat} (hB:behindB md ops n f=true) {ls:Array Bool} (inv:HeadInv md ops n ls) {i:Nat} (hi:i<n) (hun:ls.getD i true=false) (j:Nat) (hj:j∈Region.ready md ops ls):j<n:=by
 rcases Nat.lt_or_ge j n with h|h
 ·exact h
 ·exfalso
  obtain ⟨hj1,oj,hoj,hall⟩:=mem_ready.1 hj
  have hjs:j<ops.size:=(Array.getElem?_eq_some_iff.1 hoj).1
  have h1:=List.all_eq_true.1 hB j (List.mem_range.2 hjs)
  simp only [Bool.or_eq_true,decide_eq_true_eq] at h1
  rcases h1 with h1|h1
  ·omega
  ·have h2:=List.all_eq_true.1 h1 i (List.mem_range.2 hi)
   have h3:=reach_listed inv f j h2 (fun o ho e he hb=>by
    have:o=oj:=Option.some.inj (ho.symm.trans hoj)
    subst this
    exact hall e he hb)
   rw [getD_both hun] at h3
   cases h3
def upTo:Nat→Nat→Array Bool→Array Bool
 | 0,_,ls=>ls
 | f+1,k,ls=>upTo f (k+1) (ls.setIfInBounds k true)
def goB (md:Region.Mode) (ops:Array Oper):Nat→Nat→Array Bool→Bool
 | 0,_,_=>true
 | f+1,k,ls=>(Region.ready md ops ls).contains k&&Region.free md ops ls k&&goB md ops f (k+1) (ls.setIfInBounds k true)
def lateB (md:Region.Mode) (ops:Array Oper) (n f:Nat):Bool :=
 Region.noSelect ops&&decide (n≤ops.size)&&behindB md ops n f&&goB md ops n 0 (Array.replicate ops.size false)&&(Region.ready md ops (upTo n 0 (Array.replicate ops.size false))).all (fun j=>decide (n≤j))
theorem HeadQ.lexU {n f:Nat} {LS:Array Bool} {Lq:Act→Prop} (hsel:Region.noSelect ops=true) (hb:behindB md ops n f=true) (hd:∀ j∈Region.ready md ops LS,n≤j) (l:List Oper) :
 ∀ (k:Nat) (ls:Array Bool) (a:Act),(∀ j,j<l.length→l[j]?=ops[k+j]?)→k+l.length=n→HeadInv md ops n ls→goB md ops l.length k ls=true→upTo l.length k ls=LS→wpQuiet P ops C Lq l a →
  HeadQ P md ops C n (fun ls' a'=>ls'=LS∧Lq a') l.length ls a:=by
 induction l with
 | nil=>intro k ls a _ _ _ _ hu h;exact ⟨hu,h⟩
 | cons o l ih =>
   intro k ls a hl hk inv hB hu h
   have ho:ops[k]?=some o:=by have:=hl 0 (by simp);simpa using this.symm
   rw [List.length_cons] at hk hB hu
   simp only [goB,Bool.and_eq_true] at hB
   have hkn:k<n:=by omega
   have hr:k∈Region.ready md ops ls:=by simpa using hB.1.1
   obtain ⟨v,hy,hK⟩:=yieldsIn_of_qOp (K:=wpQuiet P ops C Lq l) ho (by unfold qOp;simp only [ho];exact h)
   exact HeadQ.first ⟨ho,hsel,hkn,fun ls' inv' hun j hj=>behind_lt hb inv' hkn hun j hj,fun ls' a' hL=>by rw [hL.1];exact hd⟩ l.length ls a inv (Region.free_spec ho hB.1.2) hr hy
    (ih (k+1) _ _ (fun j hj=>by have:=hl (j+1) (by simp;omega);rw [show k+1+j=k+(j+1) by omega,← this];rfl) (by omega) (inv.set hr hkn) hB.2 hu hK)
end
theorem wp_region_quiet_late {P:Program} {id:Nat} {Q:Exit→Act→World→Prop} {a:Act} {w:World} {l:List Oper} (n f:Nat) (hm:P.follows .mixedOrders=true) (hB:lateB .any l.toArray n f=true)
 (h:wpQuiet P l.toArray (fun w'=>∃ p:Regrown,w'=grow (redrawn w p.d) p.os) (fun a'=>∀ w',(∃ p:Regrown,w'=grow (redrawn w p.d) p.os)→wpAny P .any l.toArray Q (l.length-n) (upTo n 0 (Array.replicate l.length false)) a' w') (l.take n) a):(Code.region id l.toArray true).wp P Q a w:=by
 simp only [lateB,Bool.and_eq_true,decide_eq_true_eq] at hB
 obtain ⟨⟨⟨⟨hsel,hn⟩,hb⟩,hgo⟩,hd⟩:=hB
 have hn2:n≤l.length:=by simpa using hn
 have hsz:l.toArray.size=l.length:=by simp
 rw [hsz] at hgo hd
 have e1:(l.take n).length=n:=by rw [List.length_take];omega
 have hw:Cl w { w with drawn:=w.drawn+1 }:=⟨⟨w.drawn+1,#[]⟩,by rw [grow_empty];rfl⟩
 have inv:HeadInv .any l.toArray n (Array.replicate l.length false) :=
  ⟨by simp,fun j oj _ hl=>(by rw [getD_replicate_false] at hl;cases hl),fun t _ ht=>getD_in (by simpa using ht) (getD_replicate_false _ _)⟩
 have hd2:∀ j∈Region.ready .any l.toArray (upTo n 0 (Array.replicate l.length false)),n≤j:=fun j hj=>of_decide_eq_true (List.all_eq_true.1 hd j hj)
 have H:=HeadQ.lexU (P:=P) (md:=.any) (f:=f) (LS:=upTo n 0 (Array.replicate l.length false)) hsel hb hd2 (l.take n) 0 _ a (fun j hj=>by
  rw [e1] at hj
  simp [hj]) (by omega) inv (by rw [e1];exact hgo) (by rw [e1]) h
 refine wp_region_any hm ?_
 have R:=HeadQ.run (Q':=Q) (g:=l.length-n) (fun ls a' w' hC hL=>by rw [hL.1];exact hL.2 w' hC) _ _ _ _ hw H
 rw [e1,show n+(l.length-n)=l.toArray.size by rw [hsz];omega] at R
 exact R
section
variable {P:Program} {ops:Array Oper} {md:Region.Mode} {Q:Exit→Act→World→Prop}
theorem wpAny_ext {i:Nat} {oi:Oper} {fuel:Nat} {ls:Array Bool} {a:Act} {w:World} (x:Operand) (k:Nat) (vs:Array Value) (v:Value) (t:Tmp) (hi:ops[i]?=some oi) (hd:oi.dst=some t) (hg:oi.guard=none) (ho:oi.op=.extract x k) (hx:a.eval x=.tuple vs) (hv:vs[k]?=some v)
 (hs:Region.noSelect ops=true) (hf:Region.free md ops ls i=true) (hr:(Region.ready md ops ls).contains i=true) (hQ:∀ c a w,Q (.panic c) (a.put (some t) v) w→Q (.panic c) a w)
 (h:wpAny P md ops Q fuel (ls.setIfInBounds i true) (a.put (some t) v) w):wpAny P md ops Q (fuel+1) ls a w:=by
 rw [← hd] at hQ h
 refine wpAny_take hi hs hf hr hQ (.inl ⟨by unfold Region.wanted;rw [hg],fun w'=>?_⟩) h
 unfold execOp
 simp [ho,hx,Instr.extract,hv]
theorem wpAny_tail {fuel:Nat} {ls:Array Bool} {a:Act} {w:World} (k:Nat) (hk:k+fuel=ops.size) (hB:Region.seqB md ops fuel k ls=true) (h:wpList P ops Q (ops.toList.drop k) a w):wpAny P md ops Q fuel ls a w:=by
 have e:(ops.toList.drop k).length=fuel:=by rw [List.length_drop,Array.length_toList];omega
 have:=wpAny_of_seq (P:=P) (md:=md) (Q':=Q) (ops.toList.drop k) k ls a w (fun j=>by simp [List.getElem?_drop]) (by rw [e];exact hB) h
 rwa [e] at this
end
end Go.Proofs.YtjbelhpgbcnlmaaGreat
end
