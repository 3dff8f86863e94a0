/- Several texts in one: weight: four weights of a curve, walked. (Printed by wip/tools/gensp10.py.) What the row's reading tells of an argument: 'Rv' (its cells can be read as data of a type), opened type by type. Images that come in: what the row's reading tells of them. Walks of layer 7 (img) and of its reference: sizes that fit, images that are alike. Images that lie in a variable's block: stores, loads, results. Lists of images in memory. -/
import Derived.Test.YtjbelhpgbcnlmaaGreatSamplePixelsZz1
import Derived.ProofKit
import Derived.OpenShut
import Derived.Carry
import Derived.ChangeOld
import Derived.Deep.Slices
import Derived.Deep.QuietTactic
import Derived.BigQuiet
section
set_option linter.unusedVariables false
namespace Go.Proofs.YtjbelhpgbcnlmaaGreat
open Go.RowKit
def cwA (a b c d t:Int):Int:=((a*t+b*256)*t+c*256*256)*t+d*256*256*256
def cw (i:Nat) (t:Int):Int:=match i with
 | 0=>cwA (-1) 2 (-1) 0 t
 | 1=>cwA 3 (-5) 0 2 t
 | 2=>cwA (-3) 4 1 0 t
 | _=>cwA 1 (-1) 0 0 t
theorem all257 {P:Int→Prop} (h:∀ t:Fin 257,P ((t.val:Nat):Int)) {t:Int} (h0:0≤t) (h1:t≤256):P t:=by
 have:=h ⟨t.toNat,by omega⟩
 have e:((t.toNat:Nat):Int)=t:=by omega
 simp only [e] at this
 exact this
theorem cw_bd4 {t:Int} (h0:0≤t) (h1:t≤256):(-33554432≤cw 0 t∧cw 0 t≤33554432)∧(-33554432≤cw 1 t∧cw 1 t≤33554432)∧(-33554432≤cw 2 t∧cw 2 t≤33554432)∧(-33554432≤cw 3 t∧cw 3 t≤33554432) :=
 all257 (P:=fun t=>(-33554432≤cw 0 t∧cw 0 t≤33554432)∧(-33554432≤cw 1 t∧cw 1 t≤33554432)∧(-33554432≤cw 2 t∧cw 2 t≤33554432)∧(-33554432≤cw 3 t∧cw 3 t≤33554432)) (by decide +kernel) h0 h1
theorem cw_bd {t:Int} (h0:0≤t) (h1:t≤256) (i:Nat):-33554432≤cw i t∧cw i t≤33554432:=by
 obtain ⟨a,b,c,d⟩:=cw_bd4 h0 h1
 match i with
 | 0=>exact a
 | 1=>exact b
 | 2=>exact c
 | i+3=>exact d
abbrev cuA:Array Value:=#[.int .i64 (-1),.int .i64 2,.int .i64 (-1),.int .i64 0,.int .i64 3,.int .i64 (-5),.int .i64 0,.int .i64 2,.int .i64 (-3),.int .i64 4,.int .i64 1,.int .i64 0,.int .i64 1,.int .i64 (-1),.int .i64 0,.int .i64 0]
theorem cu_size:(Tryz.prog.info? 405).map (·.size)=some 16:=by kernel_rfl
theorem cv_size:(Tryz.prog.info? 404).map (·.size)=some 4:=by kernel_rfl
set_option maxRecDepth 100000 in
set_option maxHeartbeats 4000000 in
theorem curves_any (w:World):Calls Tryz.prog 318 #[] w fun e w'=>e=.returned (.agg cuA)∧Below w.heap.size w w':=by
 have hb:=(Below.refl w.heap.size w).alloc (Nat.le_refl _) (.cells (Array.replicate 16 (.int .i64 0)) 405)
 have hK:Bk (w.alloc (.cells (Array.replicate 16 (.int .i64 0)) 405)) w.heap.size 405 (Array.replicate 16 (.int .i64 0)):=Bk.new w _ _
 go_enter Tryz.func318,Tryz.ntmps318
 go_wp2_with (refine stB (ty:=405) (cells:=cuA) rfl _ _ rfl hK rfl rfl cu_size rfl (by simp [Value.oneCell']) ?_;intro w' hK' hg' _)
 refine bodyPost_ret (res_cell rfl hK' rfl Tryz.underlying405 rfl cu_size) rfl ?_
 exact ⟨rfl,below_of_gb hb hg' (Nat.le_refl _) hb.size⟩
theorem cu_ix0 (w:World):(Instr.index 405 (.agg cuA) (.int .i64 0)).run Tryz.prog w=.ok (.agg #[.int .i64 (-1),.int .i64 2,.int .i64 (-1),.int .i64 0]) w:=by kernel_rfl
theorem cu_ix1 (w:World):(Instr.index 405 (.agg cuA) (.int .i64 1)).run Tryz.prog w=.ok (.agg #[.int .i64 3,.int .i64 (-5),.int .i64 0,.int .i64 2]) w:=by kernel_rfl
theorem cu_ix2 (w:World):(Instr.index 405 (.agg cuA) (.int .i64 2)).run Tryz.prog w=.ok (.agg #[.int .i64 (-3),.int .i64 4,.int .i64 1,.int .i64 0]) w:=by kernel_rfl
theorem cu_ix3 (w:World):(Instr.index 405 (.agg cuA) (.int .i64 3)).run Tryz.prog w=.ok (.agg #[.int .i64 1,.int .i64 (-1),.int .i64 0,.int .i64 0]) w:=by kernel_rfl
def cbA (t:Int) (k:Nat):Array Value :=
 let q:=fun j=>Value.int .i64 (if j<k then cw j t else 0)
 #[q 0,q 1,q 2,q 3]
theorem cb0 (t:Int):cbA t 0=#[.int .i64 0,.int .i64 0,.int .i64 0,.int .i64 0]:=by simp [cbA]
theorem cb1 (t:Int):cbA t 1=#[.int .i64 (cw 0 t),.int .i64 0,.int .i64 0,.int .i64 0]:=by simp [cbA]
theorem cb2 (t:Int):cbA t 2=#[.int .i64 (cw 0 t),.int .i64 (cw 1 t),.int .i64 0,.int .i64 0]:=by simp [cbA]
theorem cb3 (t:Int):cbA t 3=#[.int .i64 (cw 0 t),.int .i64 (cw 1 t),.int .i64 (cw 2 t),.int .i64 0]:=by simp [cbA]
theorem cb4 (t:Int):cbA t 4=#[.int .i64 (cw 0 t),.int .i64 (cw 1 t),.int .i64 (cw 2 t),.int .i64 (cw 3 t)]:=by simp [cbA]
theorem cbA_up {t:Int} {k:Nat} (hk:k<4):(cbA t k).setIfInBounds k (.int .i64 (cw k t))=cbA t (k+1):=by
 have:k=0∨k=1∨k=2∨k=3:=by omega
 rcases this with rfl|rfl|rfl|rfl <;> simp [cbA]
set_option maxRecDepth 100000 in
set_option maxHeartbeats 8000000 in
theorem wcubic_any (t:Int) (w:World) (h0:0≤t) (h1:t≤256):Calls Tryz.prog 276 #[.int .i64 t] w fun e w'=>e=.returned (.agg (cbA t 4))∧Below w.heap.size w w':=by
 have hC0:=fun w'=>cat_any (-1) 2 (-1) 0 t w' (by omega) (by omega) (by omega) (by omega) h0 h1
 have hC1:=fun w'=>cat_any 3 (-5) 0 2 t w' (by omega) (by omega) (by omega) (by omega) h0 h1
 have hC2:=fun w'=>cat_any (-3) 4 1 0 t w' (by omega) (by omega) (by omega) (by omega) h0 h1
 have hC3:=fun w'=>cat_any 1 (-1) 0 0 t w' (by omega) (by omega) (by omega) (by omega) h0 h1
 change ∀ w',Calls _ _ _ _ fun e w''=>e=.returned (.int .i64 (cw 0 t))∧_ at hC0
 change ∀ w',Calls _ _ _ _ fun e w''=>e=.returned (.int .i64 (cw 1 t))∧_ at hC1
 change ∀ w',Calls _ _ _ _ fun e w''=>e=.returned (.int .i64 (cw 2 t))∧_ at hC2
 change ∀ w',Calls _ _ _ _ fun e w''=>e=.returned (.int .i64 (cw 3 t))∧_ at hC3
 have hL:=((Lie.start w).alloc #[.int .i64 0,.int .i64 0,.int .i64 0,.int .i64 0] 211).alloc #[.int .i64 0,.int .i64 0,.int .i64 0,.int .i64 0] 211
 simp only [World.size_alloc] at hL
 have hCu:=fun w'=>curves_any w'
 have hi0:=fun w=>cu_ix0 w
 have hi1:=fun w=>cu_ix1 w
 have hi2:=fun w=>cu_ix2 w
 have hi3:=fun w=>cu_ix3 w
 generalize (cuA:Array Value)=cu at *
 go_enter Tryz.func276,Tryz.ntmps276
 go_wp2_with (go_at_call 318;(with_reducible refine (hCu _).mono ?_);rintro e w1 ⟨rfl,hb1⟩)
 have hL1:=hL.nx hb1
 clear hL hb1 hCu
 obtain ⟨g3,hg3⟩:∃ g3,w.heap.size+1=g3:=⟨_,rfl⟩
 rw [hg3] at hL1
 simp only [hg3]
 have n3:w.heap.size<g3:=by omega
 clear hg3
 go_loopw [7] (fun iv wr=>∃ k:Nat,k≤4∧iv=.int .i64 k∧Lie w [(g3,211,cbA t k),(w.heap.size,211,#[.int .i64 0,.int .i64 0,.int .i64 0,.int .i64 0])] wr) (fun iv _=>4-(intOf iv).toNat)
 case atStart=>exact ⟨0,by omega,rfl,by rw [cb0];exact hL1⟩
 case round =>
  clear hL1
  obtain ⟨k,hk,rfl,hLi⟩:=hrel
  rcases (show k=0∨k=1∨k=2∨k=3∨k=4 by omega) with rfl|rfl|rfl|rfl|rfl
  ·clear hC1 hi1 hC2 hi2 hC3 hi3
   go_wp2_with (go_at_call 319;(with_reducible refine (hC0 _).mono ?_);rintro e w6 ⟨rfl,hb6⟩;have hL6:=(hLi.alloc #[.int .i64 (-1),.int .i64 2,.int .i64 (-1),.int .i64 0] 404).nx hb6;have k3:Bk w6 g3 211 (cbA t 0):=hL6.k 1 (by simp);have e3:=k3;rw [cb0] at e3;obtain ⟨d0,d1,d2,d3⟩:=e3.cell4;have f0:=e3.frozen 0)
   have hL7:Lie w [(g3,211,cbA t 0),(w.heap.size,211,#[.int .i64 0,.int .i64 0,.int .i64 0,.int .i64 0])] w6:=hL6.sub (fun x hx=>List.mem_cons_of_mem _ hx)
   exact ⟨⟨1,by omega,by go_num,hL7.set (gb_setCell (World.grownBy.refl w6 (some g3)) (p:=⟨g3,0,none⟩) (.inl rfl) (.int .i64 (cw 0 t))) (by rw [← cbA_up (by omega)];exact k3.set 0 (.int .i64 (cw 0 t))) (by omega) (fun x hx=>by simp only [List.mem_cons,List.not_mem_nil,or_false] at hx;subst hx;simp;omega)⟩,by simp [intOf]⟩
  ·clear hC0 hi0 hC2 hi2 hC3 hi3
   go_wp2_with (go_at_call 319;(with_reducible refine (hC1 _).mono ?_);rintro e w6 ⟨rfl,hb6⟩;have hL6:=(hLi.alloc #[.int .i64 3,.int .i64 (-5),.int .i64 0,.int .i64 2] 404).nx hb6;have k3:Bk w6 g3 211 (cbA t 1):=hL6.k 1 (by simp);have e3:=k3;rw [cb1] at e3;obtain ⟨d0,d1,d2,d3⟩:=e3.cell4;have f0:=e3.frozen 1)
   have hL7:Lie w [(g3,211,cbA t 1),(w.heap.size,211,#[.int .i64 0,.int .i64 0,.int .i64 0,.int .i64 0])] w6:=hL6.sub (fun x hx=>List.mem_cons_of_mem _ hx)
   exact ⟨⟨2,by omega,by go_num,hL7.set (gb_setCell (World.grownBy.refl w6 (some g3)) (p:=⟨g3,1,none⟩) (.inl rfl) (.int .i64 (cw 1 t))) (by rw [← cbA_up (by omega)];exact k3.set 1 (.int .i64 (cw 1 t))) (by omega) (fun x hx=>by simp only [List.mem_cons,List.not_mem_nil,or_false] at hx;subst hx;simp;omega)⟩,by simp [intOf]⟩
  ·clear hC0 hi0 hC1 hi1 hC3 hi3
   go_wp2_with (go_at_call 319;(with_reducible refine (hC2 _).mono ?_);rintro e w6 ⟨rfl,hb6⟩;have hL6:=(hLi.alloc #[.int .i64 (-3),.int .i64 4,.int .i64 1,.int .i64 0] 404).nx hb6;have k3:Bk w6 g3 211 (cbA t 2):=hL6.k 1 (by simp);have e3:=k3;rw [cb2] at e3;obtain ⟨d0,d1,d2,d3⟩:=e3.cell4;have f0:=e3.frozen 2)
   have hL7:Lie w [(g3,211,cbA t 2),(w.heap.size,211,#[.int .i64 0,.int .i64 0,.int .i64 0,.int .i64 0])] w6:=hL6.sub (fun x hx=>List.mem_cons_of_mem _ hx)
   exact ⟨⟨3,by omega,by go_num,hL7.set (gb_setCell (World.grownBy.refl w6 (some g3)) (p:=⟨g3,2,none⟩) (.inl rfl) (.int .i64 (cw 2 t))) (by rw [← cbA_up (by omega)];exact k3.set 2 (.int .i64 (cw 2 t))) (by omega) (fun x hx=>by simp only [List.mem_cons,List.not_mem_nil,or_false] at hx;subst hx;simp;omega)⟩,by simp [intOf]⟩
  ·clear hC0 hi0 hC1 hi1 hC2 hi2
   go_wp2_with (go_at_call 319;(with_reducible refine (hC3 _).mono ?_);rintro e w6 ⟨rfl,hb6⟩;have hL6:=(hLi.alloc #[.int .i64 1,.int .i64 (-1),.int .i64 0,.int .i64 0] 404).nx hb6;have k3:Bk w6 g3 211 (cbA t 3):=hL6.k 1 (by simp);have e3:=k3;rw [cb3] at e3;obtain ⟨d0,d1,d2,d3⟩:=e3.cell4;have f0:=e3.frozen 3)
   have hL7:Lie w [(g3,211,cbA t 3),(w.heap.size,211,#[.int .i64 0,.int .i64 0,.int .i64 0,.int .i64 0])] w6:=hL6.sub (fun x hx=>List.mem_cons_of_mem _ hx)
   exact ⟨⟨4,by omega,by go_num,hL7.set (gb_setCell (World.grownBy.refl w6 (some g3)) (p:=⟨g3,3,none⟩) (.inl rfl) (.int .i64 (cw 3 t))) (by rw [← cbA_up (by omega)];exact k3.set 3 (.int .i64 (cw 3 t))) (by omega) (fun x hx=>by simp only [List.mem_cons,List.not_mem_nil,or_false] at hx;subst hx;simp;omega)⟩,by simp [intOf]⟩
  ·have k3:Bk wr g3 211 (cbA t 4):=hLi.k 0 (by simp)
   have k2:Bk wr w.heap.size 211 #[.int .i64 0,.int .i64 0,.int .i64 0,.int .i64 0]:=hLi.k 1 (by simp)
   have hbz:=hLi.bel
   rw [cb4] at k3
   clear hC0 hC1 hC2 hC3 hi0 hi1 hi2 hi3
   go_wp2_with (first
    | (refine ldB rfl _ _ rfl k3 rfl Tryz.underlying211 rfl w4_size ?_)
    | (refine stB rfl _ _ _ rfl k2 _ rfl rfl w4_size rfl (by simp [Value.oneCell']) ?_;intro w6 k66 hg6 hs6))
   refine bodyPost_ret (res_cell rfl k66 rfl Tryz.underlying211 rfl w4_size) rfl ?_
   exact ⟨by rw [cb4],below_of_gb hbz hg6 (Nat.le_refl _) hbz.size⟩
set_option maxRecDepth 100000 in
set_option maxHeartbeats 8000000 in
theorem wCubic_any (t:Int) (w:World) (h0:0≤t) (h1:t≤256):Calls Tryz.prog 222 #[.int .i64 t] w fun e w'=>e=.returned (.tuple #[.agg (cbA t 4),.int .i64 0])∧Below w.heap.size w w':=by
 have hL:=(Lie.start w).alloc #[.int .i64 0,.int .i64 0,.int .i64 0,.int .i64 0] 211
 have hC:=fun w'=>wcubic_any t w' h0 h1
 have h2:decide (t<0)=false:=decide_eq_false (by omega)
 have h3:decide (256<t)=false:=decide_eq_false (by omega)
 have h4:(cbA t 4).all (·.oneCell')=true:=by simp [cbA,Value.oneCell']
 have h5:(cbA t 4).size=4:=rfl
 generalize cbA t 4=A at *
 go_enter Tryz.func222,Tryz.ntmps222
 go_wp2_with (first
  | (go_at_call 276;(with_reducible refine (hC _).mono ?_);rintro e w6 ⟨rfl,hb6⟩;have hL6:=hL.nx hb6;have k2:Bk w6 w.heap.size 211 #[.int .i64 0,.int .i64 0,.int .i64 0,.int .i64 0]:=hL6.k 0 (by simp))
  | (refine stB rfl _ _ _ rfl k2 A rfl rfl (by rw [h5];exact w4_size) (by rw [h5];rfl) h4 ?_;intro w7 k7 hg7 hs7))
 refine bodyPost_ret (res_cell_tmp rfl k7 rfl Tryz.underlying211 rfl (by rw [h5];exact w4_size)) rfl ?_
 exact ⟨rfl,below_of_gb hL6.bel hg7 (Nat.le_refl _) hL6.sz⟩
end Go.Proofs.YtjbelhpgbcnlmaaGreat
end
section
set_option linter.unusedVariables false
namespace Go.Proofs.YtjbelhpgbcnlmaaGreat
open Go.RowKit
section
variable {P:Program} {w:World}
def Rv (P:Program) (w:World) (t:TypeId) (cs:List Value):Prop :=
 ∃ (H:Type) (enc:TypeId × Value→H) (fuel:Nat) (x:DataW H × List MemPlace),DataW.trod enc P w 0 (fun _=>true) true fuel t cs=some x
theorem rv_int {t:TypeId} {k:IntKind} {cs:List Value} (ht:P.underlying t=some (.int k)) (h:Rv P w t cs):∃ n,cs=[.int k n]∧(Lit.int k n).wf=true:=by
 obtain ⟨H,enc,fuel,x,h⟩:=h
 cases fuel with
 | zero=>simp [DataW.trod] at h
 | succ n =>
   unfold DataW.trod at h
   rw [ht] at h
   split at h <;> simp_all
theorem rv_bool {t:TypeId} {cs:List Value} (ht:P.underlying t=some .bool) (h:Rv P w t cs):∃ b,cs=[.bool b]:=by
 obtain ⟨H,enc,fuel,x,h⟩:=h
 cases fuel with
 | zero=>simp [DataW.trod] at h
 | succ n =>
   unfold DataW.trod at h
   rw [ht] at h
   split at h <;> simp_all
theorem rv_string {t:TypeId} {cs:List Value} (ht:P.underlying t=some .string) (h:Rv P w t cs):∃ s,cs=[.string s]∧s.size≤maxLen:=by
 obtain ⟨H,enc,fuel,x,h⟩:=h
 cases fuel with
 | zero=>simp [DataW.trod] at h
 | succ n =>
   unfold DataW.trod at h
   rw [ht] at h
   split at h <;> simp_all
theorem rv_struct {t:TypeId} {fs:Array Field} {cs:List Value} (ht:P.underlying t=some (.struct fs)) (h:Rv P w t cs) :
 cs.length=P.cellsOf t∧∀ (i:Nat) (f:Field),fs[i]?=some f→Rv P w f.type ((cs.drop f.offset).take (P.cellsOf f.type)):=by
 obtain ⟨H,enc,fuel,x,h⟩:=h
 obtain ⟨xs,n,_,_,hl,hxs,hf⟩:=DataW.trod_struct ht h
 refine ⟨hl,fun i f hi=>?_⟩
 have hi2:i<xs.length:=by rw [hxs];exact (Array.getElem?_eq_some_iff.1 hi).1
 exact ⟨H,enc,n,xs[i],by rw [hf i f hi,List.getElem?_eq_getElem hi2]⟩
theorem rv_array {t e:TypeId} {n:Nat} {cs:List Value} (ht:P.underlying t=some (.array n e)) (h:Rv P w t cs) :
 cs.length=P.cellsOf t∧∀ i,i<n→Rv P w e ((cs.drop (i*P.cellsOf e)).take (P.cellsOf e)):=by
 obtain ⟨H,enc,fuel,x,h⟩:=h
 obtain ⟨xs,m,_,_,hl,hxs,hf⟩:=DataW.trod_array ht h
 refine ⟨hl,fun i hi=>?_⟩
 have hi2:i<xs.length:=by omega
 exact ⟨H,enc,m,xs[i],by rw [hf i hi,List.getElem?_eq_getElem hi2]⟩
theorem rv_slice {t e:TypeId} {cs:List Value} (ht:P.underlying t=some (.slice e)) (h:Rv P w t cs) :
 ∃ (A:Option Addr) (n c:Nat),cs=[.slice A n c]∧n≤c∧c≤maxLen∧(A=none→c=0) ∧
  ∀ i,i<n→∃ (a:Addr) (xs:List Value),A=some a∧xs.length=P.cellsOf e∧(∀ j,j<P.cellsOf e→w.cell? ((a.add (i*P.cellsOf e)).add j)=xs[j]?)∧Rv P w e xs:=by
 obtain ⟨H,enc,fuel,x,h⟩:=h
 rcases Deep.open_slice ht h with ⟨h1,h2⟩|⟨a,len,cap,m,n,D,Pl,h1,h2,h3,h4,h5,h6,h7⟩
 ·exact ⟨none,0,0,h1,Nat.le_refl _,by simp [maxLen],fun _=>rfl,fun i hi=>absurd hi (by omega)⟩
 ·refine ⟨some a,len,cap,h1,h3,h4,(by intro e;cases e),fun i hi=>?_⟩
  obtain ⟨cs',hc,hr⟩:=h7 i (by rw [h5];simp;omega)
  obtain ⟨_,hl,hx⟩:=World.cells?_some hc
  exact ⟨a,cs',rfl,hl,hx,H,enc,n,_,hr⟩
theorem spot_none {w:World} {a:Addr} {v:Value} (h:w.cell? a=some v):∃ b o,a=⟨b,o,none⟩∧b<w.heap.size:=by
 have hb:=World.block_lt_of_cell? w a h
 obtain ⟨b,o,s⟩:=a
 have:s=none:=by simpa using World.cell?_spot h
 subst this
 exact ⟨b,o,rfl,hb⟩
theorem rv_rows {t e:TypeId} {k:Nat} {cs:List Value} (ht:P.underlying t=some (.slice e)) (hk:P.cellsOf e=k) (hk0:0<k) (h:Rv P w t cs) :
 ∃ (A:Option Addr) (n c:Nat) (xs:List (List Value)),cs=[.slice A n c]∧n≤c∧c≤maxLen∧xs.length=n∧(∀ x∈xs,x.length=k∧Rv P w e x)∧Rd w w.heap.size A xs.flatten:=by
 obtain ⟨A,n,c,h1,h2,h3,h4,h5⟩:=rv_slice ht h
 rw [hk] at h5
 rcases Nat.eq_zero_or_pos n with h0|h0
 ·subst h0
  exact ⟨A,0,c,[],h1,h2,h3,rfl,by simp,by simpa using Rd.nil⟩
 ·obtain ⟨a0,x0,hA,hl0,hc0,_⟩:=h5 0 h0
  have h00:=hc0 0 hk0
  rw [List.getElem?_eq_getElem (by omega)] at h00
  have hadd0:((a0.add (0*k)).add 0)=a0:=by simp [Addr.add]
  rw [hadd0] at h00
  obtain ⟨b,o,rfl,hb⟩:=spot_none h00
  subst hA
  have h6:∀ i:Nat,∃ xs:List Value,i<n→xs.length=k∧(∀ j,j<k→w.cell? ⟨b,o+(i*k+j),none⟩=xs[j]?)∧Rv P w e xs:=fun i=>by
   by_cases hi:i<n
   ·obtain ⟨a,xs,ha,hl,hc,hr⟩:=h5 i hi
    injection ha with ha
    subst ha
    refine ⟨xs,fun _=>⟨hl,fun j hj=>?_,hr⟩⟩
    have:=hc j hj
    have e1:((⟨b,o,none⟩:Addr).add (i*k)).add j=⟨b,o+(i*k+j),none⟩:=by
     have ea:∀ (o i:Nat),(⟨b,o,none⟩:Addr).add i=⟨b,o+i,none⟩:=fun o i=>by unfold Addr.add;split <;> simp_all
     rw [ea,ea,Nat.add_assoc]
    rw [e1] at this
    exact this
   ·exact ⟨[],fun h=>absurd h hi⟩
  have h7:=Classical.axiomOfChoice h6
  obtain ⟨f,hf⟩:=h7
  have hlen:∀ m,m≤n→(((List.range m).map f).flatten).length=m*k:=fun m=>by
   induction m with
   | zero=>simp
   | succ m ih=>intro hm;rw [List.range_succ];simp [ih (by omega),(hf m (by omega)).1,Nat.add_mul]
  have hget:∀ m,m≤n→∀ i,(hi:i<(((List.range m).map f).flatten).length)→w.cell? ⟨b,o+i,none⟩=some (((List.range m).map f).flatten)[i]:=fun m=>by
   induction m with
   | zero=>intro _ i hi;simp at hi
   | succ m ih =>
     intro hm i hi
     have hsp:((List.range (m+1)).map f).flatten=((List.range m).map f).flatten++f m:=by rw [List.range_succ];simp
     have hlm:=hlen m (by omega)
     have hlm1:=hlen (m+1) hm
     by_cases hlt:i<m*k
     ·have:=ih (by omega) i (by omega)
      rw [this]
      congr 1
      have h8:((List.range (m+1)).map f).flatten[i]?=((List.range m).map f).flatten[i]?:=by rw [hsp,List.getElem?_append_left (by omega)]
      rw [List.getElem?_eq_getElem hi,List.getElem?_eq_getElem (by omega)] at h8
      injection h8 with h8
      exact h8.symm
     ·rw [hlm1,Nat.add_mul,Nat.one_mul] at hi
      have h9:=(hf m (by omega)).2.1 (i-m*k) (by omega)
      have e2:o+(m*k+(i-m*k))=o+i:=by omega
      rw [e2] at h9
      rw [h9]
      have h8:((List.range (m+1)).map f).flatten[i]?=(f m)[i-m*k]?:=by rw [hsp,List.getElem?_append_right (by omega),hlm]
      rw [← h8,List.getElem?_eq_getElem]
  refine ⟨_,n,c,(List.range n).map f,h1,h2,h3,by simp,fun x hx=>?_,fun i hi=>⟨b,o,rfl,hb,hget n (Nat.le_refl _) i hi⟩⟩
  obtain ⟨i,hi,rfl⟩:=List.mem_map.1 hx
  have:=hf i (by simpa using hi)
  exact ⟨this.1,this.2.2⟩
theorem rv_ints {t e:TypeId} {k:IntKind} {cs:List Value} (ht:P.underlying t=some (.slice e)) (he:P.underlying e=some (.int k)) (hc:P.cellsOf e=1) (h:Rv P w t cs) :
 ∃ (A:Option Addr) (n c:Nat) (l:List Int),cs=[.slice A n c]∧n≤c∧c≤maxLen∧l.length=n∧(∀ z∈l,(Lit.int k z).wf=true)∧Rd w w.heap.size A (l.map (Value.int k)):=by
 obtain ⟨A,n,c,xs,h1,h2,h3,h4,h5,h6⟩:=rv_rows ht hc (by omega) h
 have h7:∀ ys:List (List Value),(∀ x∈ys,x.length=1∧Rv P w e x)→∃ l:List Int,l.length=ys.length∧(∀ z∈l,(Lit.int k z).wf=true)∧ys.flatten=l.map (Value.int k):=fun ys=>by
  induction ys with
  | nil=>intro _;exact ⟨[],rfl,by simp,rfl⟩
  | cons x ys ih =>
    intro hx
    obtain ⟨l,hl1,hl2,hl3⟩:=ih (fun y hy=>hx y (by simp [hy]))
    obtain ⟨n,rfl,hn⟩:=rv_int he (hx x (by simp)).2
    exact ⟨n::l,by simp [hl1],by simpa using ⟨hn,hl2⟩,by simp [hl3]⟩
 obtain ⟨l,hl1,hl2,hl3⟩:=h7 xs h5
 exact ⟨A,n,c,l,h1,h2,h3,by omega,hl2,by rw [← hl3];exact h6⟩
theorem okWide_array {r:Reach} {base n:Nat} {t e:TypeId} {v:Value} (ht:P.underlying t=some (.array n e)) (h:Value.okWide P w r base t v):∃ cs,v=.agg cs∧cs.size=P.cellsOf t:=by
 simp only [Value.okWide,ht] at h
 obtain ⟨cs,h1,h2,_⟩:=h
 exact ⟨cs,h1,h2⟩
theorem wf_i64 {n:Int} (h:(Lit.int .i64 n).wf=true):-9223372036854775808≤n∧n≤9223372036854775807:=by
 simpa [Lit.wf,IntKind.min,IntKind.max,IntKind.signed,IntKind.bits] using h
theorem wf_u64 {n:Int} (h:(Lit.int .u64 n).wf=true):0≤n∧n≤18446744073709551615:=by
 simpa [Lit.wf,IntKind.min,IntKind.max,IntKind.signed,IntKind.bits] using h
theorem wf_u8 {n:Int} (h:(Lit.int .u8 n).wf=true):0≤n∧n≤255:=by
 simpa [Lit.wf,IntKind.min,IntKind.max,IntKind.signed,IntKind.bits] using h
end
end Go.Proofs.YtjbelhpgbcnlmaaGreat
end
section
set_option linter.unusedVariables false
namespace Go.Proofs.YtjbelhpgbcnlmaaGreat
open Go.RowKit
theorem co_int:Tryz.prog.cellsOf 3=1:=by kernel_rfl
theorem co_u8:Tryz.prog.cellsOf 5=1:=by kernel_rfl
theorem co_u8s:Tryz.prog.cellsOf 22=1:=by kernel_rfl
theorem co_img:Tryz.prog.cellsOf 24=4:=by kernel_rfl
set_option maxRecDepth 100000 in
theorem open_img {w:World} {cs:List Value} (h:Rv Tryz.prog w 24 cs) :
 ∃ (W H C:Int) (l:List Int) (A:Option Addr) (n cp:Nat),cs=[.int .i64 W,.int .i64 H,.int .i64 C,.slice A n cp]∧l.length=n∧n≤cp∧cp≤maxLen∧(∀ z∈l,(Lit.int .u8 z).wf=true)∧Rd w w.heap.size A (l.map (Value.int .u8))∧(Lit.int .i64 W).wf=true∧(Lit.int .i64 H).wf=true∧(Lit.int .i64 C).wf=true:=by
 obtain ⟨hl,hf⟩:=rv_struct Tryz.underlying24 h
 rw [co_img] at hl
 match cs,hl with
 | [v0,v1,v2,v3],_ =>
   have g0:Rv Tryz.prog w 3 (([v0,v1,v2,v3].drop 0).take (Tryz.prog.cellsOf 3)):=hf 0 _ rfl
   have g1:Rv Tryz.prog w 3 (([v0,v1,v2,v3].drop 1).take (Tryz.prog.cellsOf 3)):=hf 1 _ rfl
   have g2:Rv Tryz.prog w 3 (([v0,v1,v2,v3].drop 2).take (Tryz.prog.cellsOf 3)):=hf 2 _ rfl
   have g3:Rv Tryz.prog w 22 (([v0,v1,v2,v3].drop 3).take (Tryz.prog.cellsOf 22)):=hf 3 _ rfl
   rw [co_int] at g0 g1 g2
   rw [co_u8s] at g3
   obtain ⟨W,e0,k0⟩:=rv_int Tryz.underlying3 g0
   obtain ⟨H,e1,k1⟩:=rv_int Tryz.underlying3 g1
   obtain ⟨C,e2,k2⟩:=rv_int Tryz.underlying3 g2
   obtain ⟨A',n',c',l,e3,hn,hc,hl',hw,hr⟩:=rv_ints Tryz.underlying22 Tryz.underlying5 co_u8 g3
   simp at e0 e1 e2 e3
   subst e0 e1 e2 e3
   exact ⟨W,H,C,l,A',n',c',rfl,hl',hn,hc,hw,hr,k0,k1,k2⟩
end Go.Proofs.YtjbelhpgbcnlmaaGreat
end
section
set_option linter.unusedVariables false
namespace Go.Proofs.YtjbelhpgbcnlmaaGreat
open Go.RowKit
def fitsC (w h c:Int):Int :=
 if c≠1∧c≠3∧c≠4 then 10 else if 32768<w∨32768<h∨(0<w∧0<h∧4194304<w*h) then 30 else if w<1∨h<1 then 12 else 0
theorem mul_bd (w h:Int) (h1:0<w) (h2:0<h) (h3:w≤32768) (h4:h≤32768):0<w*h∧w*h≤1073741824:=by
 constructor
 ·exact Int.mul_pos h1 h2
 ·have:w*h≤32768*h:=Int.mul_le_mul_of_nonneg_right h3 (by omega)
  omega
theorem wmul (w h:Int) (h1:0<w) (h2:0<h) (h3:w≤32768) (h4:h≤32768):wrap64 (w*h)=w*h:=by
 have:=mul_bd w h h1 h2 h3 h4
 exact IntWalk.wrap64_in _ ⟨by omega,by omega⟩
theorem wmul_or (w h:Int):(0<w∧0<h∧w≤32768∧h≤32768∧wrap64 (w*h)=w*h)∨¬(0<w∧0<h∧w≤32768∧h≤32768):=by
 by_cases e:0<w∧0<h∧w≤32768∧h≤32768
 ·exact .inl ⟨e.1,e.2.1,e.2.2.1,e.2.2.2,wmul w h e.1 e.2.1 e.2.2.1 e.2.2.2⟩
 ·exact .inr e
theorem fitsC_ok {w h c:Int} (e:fitsC w h c=0):(c=1∨c=3∨c=4)∧1≤w∧w≤32768∧1≤h∧h≤32768∧w*h≤4194304:=by
 unfold fitsC at e
 split at e
 ·omega
 ·split at e
  ·omega
  ·split at e
   ·omega
   ·omega
theorem mul3_bd (w h c:Int) (h1:0≤w*h) (h2:w*h≤4194304) (h3:1≤c) (h4:c≤4):w*h≤w*h*c∧w*h*c≤16777216:=by
 constructor
 ·have:=Int.mul_le_mul_of_nonneg_left h3 h1;omega
 ·have:=Int.mul_le_mul h2 h4 (by omega) (by omega:(0:Int)≤4194304);omega
set_option maxHeartbeats 1000000 in
theorem fits_any (a b c:Int) (w:World) :
 Calls Tryz.prog 80 #[.int .i64 a,.int .i64 b,.int .i64 c] w fun e w'=>e=.returned (.int .i64 (fitsC a b c))∧w=w':=by
 go_enter Tryz.func80,Tryz.ntmps80
 go_wp2
 all_goals
  go_ret
  refine ⟨ret_int ?_,rfl⟩
  have hm:=wmul_or a b
  try simp only [bne_iff_ne,ne_eq,bne_eq_false_iff_eq] at *
  unfold fitsC
  repeat' split
  all_goals omega
set_option maxHeartbeats 1000000 in
theorem rfits_any (a b c:Int) (w:World) :
 Calls Tryz.prog 69 #[.int .i64 a,.int .i64 b,.int .i64 c] w fun e w'=>e=.returned (.int .i64 (fitsC a b c))∧w=w':=by
 go_enter Tryz.func69,Tryz.ntmps69
 go_wp2
 all_goals
  go_ret
  refine ⟨ret_int ?_,rfl⟩
  have hm:=wmul_or a b
  try simp only [bne_iff_ne,ne_eq,bne_eq_false_iff_eq] at *
  unfold fitsC
  repeat' split
  all_goals omega
theorem rfits_ok (a b c:Int) (w:World) (h:fitsC a b c=0) :
 Calls Tryz.prog 69 #[.int .i64 a,.int .i64 b,.int .i64 c] w fun e w'=>e=.returned (.int .i64 0)∧w=w' :=
 (rfits_any a b c w).mono fun e w' ⟨h1,h2⟩=>⟨by rw [h1,h],h2⟩
theorem img_size:(Tryz.prog.info? 24).map (·.size)=some 4:=by kernel_rfl
theorem u8_info:(Tryz.prog.info? 5).map (fun i=>(i.zero,i.size,i.bytes))=some (some (.int .u8 0),1,1):=by kernel_rfl
set_option maxHeartbeats 1000000 in
theorem new_bad (a b c:Int) (w:World) (hC:fitsC a b c≠0) :
 Calls Tryz.prog 264 #[.int .i64 a,.int .i64 b,.int .i64 c] w fun e w'=>e=.returned (.tuple #[.agg #[.int .i64 0,.int .i64 0,.int .i64 0,.slice none 0 0],.int .i64 (fitsC a b c)])∧Below w.heap.size w w':=by
 have hC':(fitsC a b c != 0)=true:=by simpa using hC
 go_enter Tryz.func264,Tryz.ntmps264
 go_wp2_with (go_at_call 80;refine (fits_any _ _ _ _).mono ?_;rintro e w' ⟨rfl,rfl⟩)
 go_returns
 exact ⟨rfl,by go_grown⟩
set_option maxHeartbeats 1000000 in
theorem new_ok (a b c:Nat) (w:World) (hC:fitsC a b c=0) :
 Calls Tryz.prog 264 #[.int .i64 a,.int .i64 b,.int .i64 c] w fun e w'=>∃ v,e=.returned (.tuple #[.agg #[.int .i64 a,.int .i64 b,.int .i64 c,v],.int .i64 0])∧w'.ownsRow w.heap.size 5 1 v (a*b*c) (List.replicate (a*b*c) (.int .u8 0))∧Below w.heap.size w w':=by
 have hC':(fitsC a b c != 0)=false:=by simpa using hC
 obtain ⟨hc,hw1,hw2,hh1,hh2,hp⟩:=fitsC_ok hC
 have hp0:=mul_bd (a:Int) (b:Int) (by omega) (by omega) hw2 hh2
 have hp3:=mul3_bd (a:Int) b c (by omega) hp (by omega) (by omega)
 have e3:(((a*b*c:Nat)):Int)=(a:Int)*b*c:=by simp [Int.natCast_mul]
 have HB:Hid (a*b*c≤16777216):=by show a*b*c≤16777216;omega
 have hmk:=fun W=>run_make1 (P:=Tryz.prog) Tryz.underlying22 u8_info rfl ((a:Int)*b*c) (a*b*c) e3.symm (by omega) (by omega) W
 clear e3
 have HC:=Lib.hid hC
 clear hC hc
 go_enter Tryz.func264,Tryz.ntmps264
 go_wp2_with (go_at_call 80;refine (fits_any _ _ _ _).mono ?_;rintro e w' ⟨rfl,rfl⟩)
 go_returns
 refine ⟨_,rfl,?_,by go_grown⟩
 simpa using own_of_Bk (base:=w.heap.size) (Bk.new (w.alloc _) 5 (Array.replicate (a*b*c) (.int .u8 0))) (a*b*c) (by simp) (by have:=HB.out;omega) (by simp)
def checkC (W H C:Int) (n:Nat):Int:=if fitsC W H C=0∧(n:Int)≠W*H*C then 12 else fitsC W H C
set_option maxHeartbeats 1000000 in
theorem ircheck_any (W H C:Int) (A:Option Addr) (n c:Nat) (w:World) :
 Calls Tryz.prog 27 #[.agg #[.int .i64 W,.int .i64 H,.int .i64 C,.slice A n c]] w fun e w'=>e=.returned (.int .i64 (checkC W H C n))∧Below w.heap.size w w':=by
 by_cases hf:fitsC W H C=0
 ·obtain ⟨hc,hw1,hw2,hh1,hh2,hp⟩:=fitsC_ok hf
  have hp0:=mul_bd W H (by omega) (by omega) hw2 hh2
  have hp3:=mul3_bd W H C (by omega) hp (by omega) (by omega)
  by_cases hn:(n:Int)=W*H*C
  all_goals
   have hfb:(fitsC W H C==0)=true:=by simpa using hf
   have HF:=Lib.hid hf
   clear hf hc
   go_enter Tryz.func27,Tryz.ntmps27
   go_wp2_with (go_at_call 69;refine (rfits_any _ _ _ _).mono ?_;rintro e w' ⟨rfl,rfl⟩)
   go_returns
   exact ⟨ret_int (by unfold checkC;rw [HF.out];first | (rw [if_pos ⟨rfl,by assumption⟩])|(rw [if_neg (by omega)])),by go_grown⟩
 ·have hfb:(fitsC W H C==0)=false:=by simpa using hf
  have HF:=Lib.hid hf
  clear hf
  go_enter Tryz.func27,Tryz.ntmps27
  go_wp2_with (go_at_call 69;refine (rfits_any _ _ _ _).mono ?_;rintro e w' ⟨rfl,rfl⟩)
  go_returns
  exact ⟨ret_int (by unfold checkC;rw [if_neg (fun h=>HF.out h.1)]),by go_grown⟩
theorem rcheck_ok (W H C:Int) (A:Option Addr) (n c:Nat) (w:World) (h:checkC W H C n=0) :
 Calls Tryz.prog 27 #[.agg #[.int .i64 W,.int .i64 H,.int .i64 C,.slice A n c]] w fun e w'=>e=.returned (.int .i64 0)∧Below w.heap.size w w' :=
 (ircheck_any W H C A n c w).mono fun e w' ⟨h1,h2⟩=>⟨by rw [h1,h],h2⟩
set_option maxHeartbeats 1000000 in
theorem made_any (W H C:Int) (A:Option Addr) (n c:Nat) (w:World) :
 Calls Tryz.prog 66 #[.int .i64 W,.int .i64 H,.int .i64 C,.slice A n c] w fun e w'=>e=.returned (.agg #[.int .i64 W,.int .i64 H,.int .i64 C,.slice A n c])∧Below w.heap.size w w':=by
 go_enter Tryz.func66,Tryz.ntmps66
 go_wp2
 go_returns
 exact ⟨rfl,by go_grown⟩
set_option maxHeartbeats 1000000 in
theorem same_yes (W H C:Int) (A A':Option Addr) (n c c':Nat) (xs:List Value) (w:World) (h:Rd w w.heap.size A xs) (h':Rd w w.heap.size A' xs) (hn:xs.length=n) (hx:∀ v∈xs,∃ k,v=.int .u8 k) (hn2:n≤9223372036854775807) :
 Calls Tryz.prog 25 #[.agg #[.int .i64 W,.int .i64 H,.int .i64 C,.slice A n c],.agg #[.int .i64 W,.int .i64 H,.int .i64 C,.slice A' n c']] w fun e w'=>e=.returned (.bool true)∧Below w.heap.size w w':=by
 go_enter Tryz.func25,Tryz.ntmps25
 go_wp2
 go_loopw [5] (fun i wr=>∃ k:Nat,k≤n∧i=.int .i64 k∧∃ m,wr=(((w.alloc (.cells #[.int .i64 W,.int .i64 H,.int .i64 C,.slice A n c] 24)).alloc (.cells #[.int .i64 W,.int .i64 H,.int .i64 C,.slice A' n c'] 24))).drewN m) (fun i _=>n-(intOf i).toNat)
 case atStart=>exact ⟨0,by omega,rfl,0,rfl⟩
 case round =>
  obtain ⟨k,hk,rfl,m,rfl⟩:=hrel
  by_cases hlt:k<n
  ·obtain ⟨b,o,rfl,hb,hcl⟩:=h.get k (by omega)
   obtain ⟨b',o',rfl,hb',hcl'⟩:=h'.get k (by omega)
   obtain ⟨z,hz⟩:=hx xs[k] (List.getElem_mem _)
   rw [hz] at hcl hcl'
   clear hz
   go_wp2
   go_quiet (fail)
   go_wp2
   exact ⟨⟨k+1,by omega,by go_num,_,rfl⟩,by simp [intOf];omega⟩
  ·go_wp2
   go_returns
   exact ⟨rfl,below_drewN (by go_grown) _⟩
end Go.Proofs.YtjbelhpgbcnlmaaGreat
end
section
set_option linter.unusedVariables false
namespace Go.Proofs.YtjbelhpgbcnlmaaGreat
open Go.RowKit
abbrev imgA (W H C:Int) (A:Option Addr) (n c:Nat):Array Value:=#[.int .i64 W,.int .i64 H,.int .i64 C,.slice A n c]
abbrev img0:Array Value:=#[.int .i64 0,.int .i64 0,.int .i64 0,.slice none 0 0]
theorem stImg {ops:Array Oper} {rest:List Oper} {o:Oper} {a:Act} {w:World} {Q:Exit→Act→World→Prop} (hgd:o.guard=none) (x y:Operand) (ho:o.op=.store 24 x y)
 {g:Nat} {old:Array Value} (hK:Bk w g 24 old) (hold:old.size=4) {W H C:Int} {A:Option Addr} {n c:Nat} (hx:a.eval x=.pointer (some ⟨g,0,none⟩)) (hy:a.eval y=.agg #[.int .i64 W,.int .i64 H,.int .i64 C,.slice A n c])
 (h:∀ w',Bk w' g 24 #[.int .i64 W,.int .i64 H,.int .i64 C,.slice A n c]→w.grownBy w' (some g)→w'.heap.size=w.heap.size→wpList Tryz.prog ops Q rest (a.put o.dst undef) w'):wpList Tryz.prog ops Q (o::rest) a w :=
 stB hgd _ x y ho hK _ hx hy img_size (by simpa using hold) (by simp [Value.oneCell']) h
theorem ldImg {ops:Array Oper} {rest:List Oper} {o:Oper} {a:Act} {w:World} {Q:Exit→Act→World→Prop} (hgd:o.guard=none) (x:Operand) (ho:o.op=.load 24 x)
 {g:Nat} {W H C:Int} {A:Option Addr} {n c:Nat} (hK:Bk w g 24 #[.int .i64 W,.int .i64 H,.int .i64 C,.slice A n c]) (hx:a.eval x=.pointer (some ⟨g,0,none⟩))
 (h:wpList Tryz.prog ops Q rest (a.put o.dst (.agg #[.int .i64 W,.int .i64 H,.int .i64 C,.slice A n c])) w):wpList Tryz.prog ops Q (o::rest) a w :=
 ldB hgd _ x ho hK hx Tryz.underlying24 rfl img_size h
theorem res_img_tmp {fn:Func} {p q:Tmp} (h:fn.results=#[.cell p 24,.tmp q]) {tmps:Array Value} {w:World} {g:Nat} {W H C:Int} {A:Option Addr} {n c:Nat} (hK:Bk w g 24 #[.int .i64 W,.int .i64 H,.int .i64 C,.slice A n c])
 (hp:tmps.getD p undef=.pointer (some ⟨g,0,none⟩)):(results fn tmps).run Tryz.prog w=.ok (.tuple #[.agg #[.int .i64 W,.int .i64 H,.int .i64 C,.slice A n c],tmps.getD q undef]) w :=
 res_cell_tmp h hK hp Tryz.underlying24 rfl img_size
theorem res_img {fn:Func} {p:Tmp} (h:fn.results=#[.cell p 24]) {tmps:Array Value} {w:World} {g:Nat} {W H C:Int} {A:Option Addr} {n c:Nat} (hK:Bk w g 24 #[.int .i64 W,.int .i64 H,.int .i64 C,.slice A n c])
 (hp:tmps.getD p undef=.pointer (some ⟨g,0,none⟩)):(results fn tmps).run Tryz.prog w=.ok (.agg #[.int .i64 W,.int .i64 H,.int .i64 C,.slice A n c]) w :=
 res_cell h hK hp Tryz.underlying24 rfl img_size
end Go.Proofs.YtjbelhpgbcnlmaaGreat
end
section
set_option linter.unusedVariables false
namespace Go.Proofs.YtjbelhpgbcnlmaaGreat
open Go.RowKit
structure Im where
 W:Int
 H:Int
 C:Int
 px:List Int
def ImAt (w:World) (lo:Nat) (cs:List Value) (m:Im):Prop:=∃ (A:Option Addr) (c:Nat),cs=[.int .i64 m.W,.int .i64 m.H,.int .i64 m.C,.slice A m.px.length c]∧m.px.length≤c∧RdL w lo A (m.px.map (Value.int .u8))
def ImsAt (w:World) (lo:Nat) (A:Option Addr) (ims:List Im):Prop:=∃ xs:List (List Value),RdL w lo A xs.flatten∧xs.length=ims.length∧∀ (i:Nat) (h:i<ims.length) (h':i<xs.length),ImAt w lo xs[i] ims[i]
def ImOk (m:Im):Prop:=(-9223372036854775808≤m.W∧m.W≤9223372036854775807)∧(-9223372036854775808≤m.H∧m.H≤9223372036854775807)∧(-9223372036854775808≤m.C∧m.C≤9223372036854775807)∧(∀ z∈m.px,0≤z∧z≤255)∧m.px.length≤9223372036854775807
section
variable {w w':World} {lo lo':Nat} {A:Option Addr} {ims:List Im} {m:Im} {cs:List Value}
theorem ImAt.keep (h:ImAt w lo cs m) (hz:w.heap.size≤w'.heap.size) (hk:∀ p:Addr,lo≤p.block→p.block<w.heap.size→w'.cell? p=w.cell? p):ImAt w' lo cs m:=by
 obtain ⟨A,c,e,hc,hr⟩:=h
 exact ⟨A,c,e,hc,hr.keep hz hk⟩
theorem ImsAt.keep (h:ImsAt w lo A ims) (hz:w.heap.size≤w'.heap.size) (hk:∀ p:Addr,lo≤p.block→p.block<w.heap.size→w'.cell? p=w.cell? p):ImsAt w' lo A ims:=by
 obtain ⟨xs,h1,h2,h3⟩:=h
 exact ⟨xs,h1.keep hz hk,h2,fun i a b=>(h3 i a b).keep hz hk⟩
theorem ImAt.less (h:ImAt w lo cs m) (hl:lo'≤lo):ImAt w lo' cs m:=by
 obtain ⟨A,c,e,hc,hr⟩:=h
 exact ⟨A,c,e,hc,hr.less hl⟩
theorem ImsAt.less (h:ImsAt w lo A ims) (hl:lo'≤lo):ImsAt w lo' A ims:=by
 obtain ⟨xs,h1,h2,h3⟩:=h
 exact ⟨xs,h1.less hl,h2,fun i a b=>(h3 i a b).less hl⟩
theorem ImAt.nx {B:Nat} (h:ImAt w lo cs m) (hb:Below B w w') (hB:w.heap.size≤B):ImAt w' lo cs m:=h.keep hb.size fun p _ hp=>hb.cell (by omega)
theorem ImsAt.nx {B:Nat} (h:ImsAt w lo A ims) (hb:Below B w w') (hB:w.heap.size≤B):ImsAt w' lo A ims:=h.keep hb.size fun p _ hp=>hb.cell (by omega)
theorem flat_get4:∀ (xs:List (List Value)) (i:Nat) (h:i<xs.length),(∀ x∈xs,x.length=4)→∀ j,j<4→xs.flatten[i*4+j]?=xs[i][j]?
 | [],i,h,_,_,_=>absurd h (by simp)
 | x::xs,0,_,hx,j,hj=>by
   rw [List.flatten_cons,List.getElem?_append_left (by rw [hx x (by simp)];omega)]
   simp
 | x::xs,i+1,h,hx,j,hj=>by
   have ih:=flat_get4 xs i (by simpa using h) (fun y hy=>hx y (by simp [hy])) j hj
   rw [List.flatten_cons,List.getElem?_append_right (by rw [hx x (by simp)];omega),hx x (by simp),show (i+1)*4+j-4=i*4+j by omega,ih]
   rfl
theorem flat_len4:∀ (xs:List (List Value)),(∀ x∈xs,x.length=4)→xs.flatten.length=xs.length*4
 | [],_=>rfl
 | x::xs,h=>by
   rw [List.flatten_cons,List.length_append,h x (by simp),flat_len4 xs (fun y hy=>h y (by simp [hy])),List.length_cons];omega
theorem ImsAt.len4 {xs:List (List Value)} (h2:xs.length=ims.length) (h3:∀ (i:Nat) (h:i<ims.length) (h':i<xs.length),ImAt w lo xs[i] ims[i]):∀ x∈xs,x.length=4:=fun x hx=>by
 obtain ⟨i,hi,rfl⟩:=List.mem_iff_getElem.1 hx
 obtain ⟨A,c,e,_⟩:=h3 i (by omega) hi
 rw [e];rfl
theorem ImsAt.get (h:ImsAt w lo A ims) (i:Nat) (hi:i<ims.length):∃ (b o:Nat) (Ai:Option Addr) (ci:Nat),A=some ⟨b,o,none⟩∧lo≤b∧b<w.heap.size∧w.cell? ⟨b,o+i*4,none⟩=some (.int .i64 ims[i].W)∧w.cell? ⟨b,o+i*4+1,none⟩=some (.int .i64 ims[i].H)∧w.cell? ⟨b,o+i*4+2,none⟩=some (.int .i64 ims[i].C)∧w.cell? ⟨b,o+i*4+3,none⟩=some (.slice Ai ims[i].px.length ci)∧ims[i].px.length≤ci∧RdL w lo Ai (ims[i].px.map (Value.int .u8)):=by
 obtain ⟨xs,h1,h2,h3⟩:=h
 have h4:=ImsAt.len4 h2 h3
 have hx:i<xs.length:=by omega
 have hl:=flat_len4 xs h4
 obtain ⟨Ai,ci,e,hc,hr⟩:=h3 i hi hx
 obtain ⟨b,o,rfl,hlo,hb,_⟩:=h1 (i*4) (by omega)
 have hg:∀ j,j<4→w.cell? ⟨b,o+i*4+j,none⟩=xs[i][j]?:=fun j hj=>by
  obtain ⟨b',o',e',_,_,hc'⟩:=h1 (i*4+j) (by omega)
  injection e' with e';injection e' with e1 e2
  subst e1;subst e2
  rw [show o+i*4+j=o+(i*4+j) by omega,hc',← List.getElem?_eq_getElem,flat_get4 xs i hx h4 j hj]
 refine ⟨b,o,Ai,ci,rfl,hlo,hb,?_,?_,?_,?_,hc,hr⟩
 ·have:=hg 0 (by omega);rw [e] at this;exact this
 ·have:=hg 1 (by omega);rw [e] at this;exact this
 ·have:=hg 2 (by omega);rw [e] at this;exact this
 ·have:=hg 3 (by omega);rw [e] at this;exact this
end
theorem open_im {w:World} {cs:List Value} (h:Rv Tryz.prog w 24 cs):∃ m:Im,ImAt w 0 cs m∧ImOk m:=by
 obtain ⟨W,H,C,l,A,n,cp,rfl,hl,hn,hc,hw,hr,k0,k1,k2⟩:=open_img h
 subst hl
 refine ⟨⟨W,H,C,l⟩,⟨A,cp,rfl,hn,hr.rdl⟩,wf_i64 k0,wf_i64 k1,wf_i64 k2,fun z hz=>?_,?_⟩
 ·have:=hw z hz
  simp [Lit.wf,IntKind.min,IntKind.max,IntKind.bits,IntKind.signed] at this
  omega
 ·unfold maxLen at hc;show l.length≤_;omega
theorem ims_of {w:World}:∀ xs:List (List Value),(∀ x∈xs,x.length=4∧Rv Tryz.prog w 24 x)→∃ ims:List Im,xs.length=ims.length∧(∀ (i:Nat) (h:i<ims.length) (h':i<xs.length),ImAt w 0 xs[i] ims[i])∧∀ m∈ims,ImOk m
 | [],_=>⟨[],rfl,fun i h _=>absurd h (by simp),by simp⟩
 | x::xs,h=>by
   obtain ⟨ims,h1,h2,h3⟩:=ims_of xs (fun y hy=>h y (by simp [hy]))
   obtain ⟨m,hm,hok⟩:=open_im (h x (by simp)).2
   refine ⟨m::ims,by simp [h1],?_,?_⟩
   ·intro i hi hi'
    cases i with
    | zero=>exact hm
    | succ i=>exact h2 i (by simpa using hi) (by simpa using hi')
   ·intro y hy
    rcases List.mem_cons.1 hy with rfl|hy
    ·exact hok
    ·exact h3 y hy
theorem open_ims {w:World} {A:Option Addr} {n c:Nat} (h:Rv Tryz.prog w 36 [.slice A n c]):n≤c∧c≤maxLen∧∃ ims:List Im,ims.length=n∧ImsAt w 0 A ims∧∀ m∈ims,ImOk m:=by
 obtain ⟨A',n',c',xs,e,h1,h2,h3,h4,h5⟩:=rv_rows Tryz.underlying36 co_img (by omega) h
 simp at e
 obtain ⟨rfl,rfl,rfl⟩:=e
 obtain ⟨ims,g1,g2,g3⟩:=ims_of xs h4
 exact ⟨h1,h2,ims,by omega,⟨xs,h5.rdl,g1,g2⟩,g3⟩
end Go.Proofs.YtjbelhpgbcnlmaaGreat
end
