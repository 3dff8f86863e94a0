/- Several texts in one: Several texts in one: mesh: what is wrong with its numbers. mesh: New, of what may be: the walk to its loop. -/
import Derived.Test.YtjbelhpgbcnlmaaGreatSamplePixelsZz29
import Derived.Test.YtjbelhpgbcnlmaaGreatSamplePixelsZz30
import Derived.Test.YtjbelhpgbcnlmaaGreatSamplePixelsZz14
import Derived.BigRegion
import Derived.RegionTactic
import Derived.Deep.Cut
import Derived.Deep.DeepCutAuto
import Derived.Test.YtjbelhpgbcnlmaaGreatSamplePixelsZz28
section
section
set_option linter.unusedVariables false
namespace Go.Proofs.YtjbelhpgbcnlmaaGreat
open Go.RowKit
attribute [local go_sem high] run_maxM run_minM
def meFar (x:Int):Bool:=!inH x 2147483648
theorem mfar_any (x:Int) (w:World):Calls Tryz.prog 242 #[.int .i64 x] w fun e w'=>e=.returned (.bool (meFar x))∧w=w':=by
 have hE:Hid (meFar x=!(decide (-2147483648≤x)&&decide (x≤2147483648))):=by unfold meFar Hid;rw [inH_eq]
 have hc:(x < -2147483648∧Hid (meFar x=true))∨(-2147483648≤x∧2147483648<x∧Hid (meFar x=true))∨(-2147483648≤x∧x≤2147483648∧Hid (meFar x=false)):=by
  have:=hE.out
  by_cases h1:x < -2147483648
  ·exact .inl ⟨h1,by show _=_;rw [this];simp;omega⟩
  ·by_cases h2:2147483648<x
   ·exact .inr (.inl ⟨by omega,h2,by show _=_;rw [this];simp;omega⟩)
   ·exact .inr (.inr ⟨by omega,by omega,by show _=_;rw [this];simp;omega⟩)
 clear hE
 rcases hc with ⟨h1,HE⟩|⟨h1,h2,HE⟩|⟨h1,h2,HE⟩
 all_goals
  go_enter Tryz.func242,Tryz.ntmps242
  go_wp2
  go_returns
  exact ⟨by rw [HE.out];first | rfl|exact ret_bool (by simp;omega),rfl⟩
def meC (l:List Int) (W H:Int):Int :=
 if l.length<4 then 12 else if meFit (cf l 0) (cf l 1) (cf l 2) (cf l 3)=false then 11 else if (l.length:Int)≠meLn l then 12
 else if (l.drop 4).any meFar=true then 11 else if szH W H=false then 30 else if cf l 0*cf l 2<W∨cf l 1*cf l 3<H then 42 else 0
theorem Rd.drop {w:World} {B:Nat} {b o:Nat} {xs:List Value} (h:Rd w B (some ⟨b,o,none⟩) xs) (k:Nat):Rd w B (some ⟨b,o+k,none⟩) (xs.drop k):=fun i hi=>by
 have hi':k+i<xs.length:=by simp at hi;omega
 obtain ⟨b',o',e,h2,h3⟩:=h (k+i) hi'
 injection e with e
 injection e with e1 e2
 subst e1 e2
 refine ⟨b,o+k,rfl,h2,?_⟩
 rw [Nat.add_assoc,h3]
 simp
set_option maxRecDepth 100000 in
set_option maxHeartbeats 16000000 in
theorem mnew_err (l:List Int) (A:Option Addr) (n cp:Nat) (W H:Int) (w:World) {B:Nat} (hl:l.length=n) (hcp:n≤cp) (hn:n≤9223372036854775807) (hr:Rd w B A (l.map (Value.int .i64))) (hB:B≤w.heap.size) (hC:meC l W H≠0) :
 Calls Tryz.prog 169 #[.slice A n cp,.int .i64 W,.int .i64 H] w fun e w'=>e=.returned (.tuple #[.pointer none,.int .i64 (meC l W H)])∧Below w.heap.size w w':=by
 have hb0:=Below.refl w.heap.size w
 by_cases h4:(n:Int)<4
 ·have HE:Hid (meC l W H=12):=by unfold meC Hid;rw [if_pos (by omega)]
  clear hr hl hC
  go_enter Tryz.func169,Tryz.ntmps169
  go_wp2_with fail
  go_returns
  exact ⟨by rw [HE.out];rfl,hb0⟩
 obtain ⟨b,o,rfl,hb,hc⟩:=lget4 (by omega) hr
 have c0:=hc 0 (by omega)
 have c1:=hc 1 (by omega)
 have c2:=hc 2 (by omega)
 have c3:=hc 3 (by omega)
 have hbw:b<w.heap.size:=by omega
 rw [Nat.add_zero] at c0
 have HE0:Hid (meC l W H=if meFit (cf l 0) (cf l 1) (cf l 2) (cf l 3)=false then 11 else if (l.length:Int)≠meLn l then 12 else if (l.drop 4).any meFar=true then 11 else if szH W H=false then 30 else if cf l 0*cf l 2<W∨cf l 1*cf l 3<H then 42 else 0):=by
  unfold meC Hid;rw [if_neg (by omega)]
 have hHC:=Lib.hid hC
 have hHL:=Lib.hid hl
 have h4n:4≤n:=by omega
 clear hC hl hc
 go_enter Tryz.func169,Tryz.ntmps169
 go_upto_region 3 with fail
 go_cut [8] (fun p wx=>∃ gp gm:Nat,p=.pointer (some ⟨gp,0,none⟩)∧w.heap.size≤gp∧w.heap.size≤gm∧gp≠gm∧Bk wx gp 230 #[.pointer (some ⟨gm,0,none⟩)]∧Bk wx gm 302 (msA (cf l 0) (cf l 2) (cf l 1) (cf l 3) none 0 0)∧Below w.heap.size w wx)
 case first =>
  go_region
  ·go_wp2_with fail
   go_meet
   refine ⟨_,_,rfl,Nat.le_succ _,Nat.le_refl _,by omega,?_,((Bk.new w 302 (msA (cf l 0) (cf l 2) (cf l 1) (cf l 3) none 0 0)).alloc _).drew,below_drewN ((hb0.alloc (Nat.le_refl _) _).alloc (by simp) _) 1⟩
   have:=(Bk.new (w.alloc (.cells (msA (cf l 0) (cf l 2) (cf l 1) (cf l 3) none 0 0) 302)) 230 #[.pointer (some ⟨w.heap.size,0,none⟩)]).drew
   simpa using this
  ·go_wp2_with fail
   go_meet
   refine ⟨_,_,rfl,Nat.le_refl _,Nat.le_succ _,by omega,((Bk.new w 230 #[.pointer (some ⟨w.heap.size+1,0,none⟩)]).alloc _).drew,?_,below_drewN ((hb0.alloc (Nat.le_refl _) _).alloc (by simp) _) 1⟩
   have:=(Bk.new (w.alloc (.cells #[.pointer (some ⟨w.heap.size+1,0,none⟩)] 230)) 302 (msA (cf l 0) (cf l 2) (cf l 1) (cf l 3) none 0 0)).drew
   simpa using this
 case rest =>
  obtain ⟨gp,gm,rfl,hgp,hgm,hne,kp,km,hbc⟩:=hcut
  clear hb0 c0 c1 c2 c3
  have hrd:Rd wc B (some ⟨b,o+4,none⟩) ((l.drop 4).map (Value.int .i64)):=by
   have:=((hr.below' hbc hB).drop 4)
   rwa [← List.map_drop] at this
  clear hr
  have p0:=kp.cell1
  obtain ⟨d0,d1,d2,d3,d4⟩:=km.cell5
  have hFt:=fun w'=>mfits_any (cf l 0) (cf l 1) (cf l 2) (cf l 3) w'
  have r0:=fun (n:Nat) (os:Array Obj)=>cell_regrown p0 n os
  have r1:=fun (n:Nat) (os:Array Obj)=>cell_regrown d0 n os
  have r2:=fun (n:Nat) (os:Array Obj)=>cell_regrown d1 n os
  have r3:=fun (n:Nat) (os:Array Obj)=>cell_regrown d2 n os
  have r4:=fun (n:Nat) (os:Array Obj)=>cell_regrown d3 n os
  go_upto_region 4 with fail
  refine wp_region_quiet_below (by kernel_rfl) (by kernel_rfl) ?_
  repeat (first
   | go_big_quiet_step ((with_reducible exact quiet_below (hFt _)))
   | quiet_step ((with_reducible exact quiet_below (hFt _))))
  refine wpQuiet_nil ?_
  intro _ hw'
  obtain ⟨⟨dd,os⟩,hw''⟩:=hw'
  subst hw''
  have hbx:=below_regrown wc dd os
  generalize Go.Sort.grow (redrawn wc dd) os=w4 at *
  replace hrd:=hrd.below' hbx (Nat.le_trans hB hbc.size)
  replace hbc:=hbc.trans (hbx.mono hbc.size)
  replace kp:=kp.nx hbx
  replace km:=km.nx hbx
  clear r0 r1 r2 r3 r4 p0 d0 d1 d2 d3 d4 hFt hbx
  have p0:=kp.cell1
  obtain ⟨d0,d1,d2,d3,d4⟩:=km.cell5
  cases hft:meFit (cf l 0) (cf l 1) (cf l 2) (cf l 3)
  ·have HE:Hid (meC l W H=11):=by have:=HE0.out;rw [if_pos hft] at this;exact this
   go_wp2_with fail
   go_returns
   exact ⟨by rw [HE.out];rfl,hbc⟩
  ·obtain ⟨⟨a0,a1⟩,⟨a2,a3⟩,⟨a4,a5⟩,a6,a7⟩:=meFit_iff.1 hft
   have HE1:Hid (meC l W H=if (l.length:Int)≠meLn l then 12 else if (l.drop 4).any meFar=true then 11 else if szH W H=false then 30 else if cf l 0*cf l 2<W∨cf l 1*cf l 3<H then 42 else 0):=by
    have:=HE0.out;rw [if_neg (by rw [hft];decide)] at this;exact this
   clear HE0
   have m1:1*1≤cf l 0*cf l 2:=Int.mul_le_mul a0 a4 (by omega) (by omega)
   have m2:cf l 0*cf l 2≤1024*64:=Int.mul_le_mul a1 a5 (by omega) (by omega)
   have m3:1*1≤cf l 1*cf l 3:=Int.mul_le_mul a2 a6 (by omega) (by omega)
   have m4:cf l 1*cf l 3≤1024*64:=Int.mul_le_mul a3 a7 (by omega) (by omega)
   have m5:4*2≤2*(cf l 2+1)*(cf l 3+1):=Int.mul_le_mul (by omega) (by omega) (by omega) (by omega)
   have m6:2*(cf l 2+1)*(cf l 3+1)≤130*65:=Int.mul_le_mul (by omega) (by omega) (by omega) (by omega)
   have k1:IntKind.i64.wrap (cf l 2+1)=cf l 2+1:=IntWalk.i64_in _ ⟨by omega,by omega⟩
   have k2:IntKind.i64.wrap (2*(cf l 2+1))=2*(cf l 2+1):=IntWalk.i64_in _ ⟨by omega,by omega⟩
   have k3:IntKind.i64.wrap (cf l 3+1)=cf l 3+1:=IntWalk.i64_in _ ⟨by omega,by omega⟩
   have k4:IntKind.i64.wrap (2*(cf l 2+1)*(cf l 3+1))=2*(cf l 2+1)*(cf l 3+1):=IntWalk.i64_in _ ⟨by omega,by omega⟩
   obtain ⟨LN,hLN⟩:∃ z,meLn l=z:=⟨_,rfl⟩
   have k5:IntKind.i64.wrap (4+2*(cf l 2+1)*(cf l 3+1))=LN:=by rw [← hLN];exact IntWalk.i64_in _ ⟨by omega,by omega⟩
   have HLN:=Lib.hid hLN
   have l12:12≤LN:=by rw [← hLN];unfold meLn;omega
   have l13:LN≤8454:=by rw [← hLN];unfold meLn;omega
   have k6:IntKind.i64.wrap (cf l 0*cf l 2)=cf l 0*cf l 2:=IntWalk.i64_in _ ⟨by omega,by omega⟩
   have k7:IntKind.i64.wrap (cf l 1*cf l 3)=cf l 1*cf l 3:=IntWalk.i64_in _ ⟨by omega,by omega⟩
   clear hLN a0 a1 a2 a3 a4 a5 a6 a7 m5 m6 hft
   go_upto_region 6 with fail
   go_quiet (fail)
   replace hrd:=hrd.drewN nq
   replace hbc:=below_drewN hbc nq
   replace kp:=kp.drewN nq
   replace km:=km.drewN nq
   clear p0 d0 d1 d2 d3 d4 k1 k2 k3 k4 k5
   generalize w4.drewN nq=w5 at *
   have p0:=kp.cell1
   obtain ⟨d0,d1,d2,d3,d4⟩:=km.cell5
   by_cases hLn:(n:Int)=LN
   ·have HE2:Hid (meC l W H=if (l.drop 4).any meFar=true then 11 else if szH W H=false then 30 else if cf l 0*cf l 2<W∨cf l 1*cf l 3<H then 42 else 0):=by
     have:=HE1.out;rw [if_neg (by rw [hHL.out,HLN.out,hLn];simp)] at this;exact this
    clear HE1
    have hn4:(4:Int)≤(n:Int):=by omega
    have hcp4:¬cp=4:=by omega
    have hsl:∀ w':World,(Instr.slice 30 (.slice (some ⟨b,o,none⟩) n cp) (some (.int .i64 4)) none none).run Tryz.prog w'=.ok (.slice (some ⟨b,o+4,none⟩) (n-4) (cp-4)) w':=by
     intro w'
     rw [run_slice_l w' 30 _ _ _ Tryz.underlying30 _ _ (by decide) hn4]
     simp [go_sem,hcp4]
    have hCt:=ctf_mesh meFar mfar_any (l.drop 4) (some ⟨b,o+4,none⟩) (n-4) (cp-4) w5 (by rw [List.length_drop,hHL.out]) (by omega) hrd
    have hbn:((n:Int) != LN)=false:=by simp [hLn]
    have HLn:=Lib.hid hLn
    clear hLn
    cases hfr:(l.drop 4).any meFar
    ·have HE3:Hid (meC l W H=if szH W H=false then 30 else if cf l 0*cf l 2<W∨cf l 1*cf l 3<H then 42 else 0):=by
      have:=HE2.out;rw [if_neg (by rw [hfr];simp)] at this;exact this
     rw [hfr] at hCt
     clear HE2 hfr
     rcases sz_cases W H with ⟨hs,s0,s1,s2,s3⟩|⟨hs,hc⟩
     ·have HE4:Hid (meC l W H=if cf l 0*cf l 2<W∨cf l 1*cf l 3<H then 42 else 0):=by
       have:=HE3.out;rw [if_neg (by rw [hs];simp)] at this;exact this
      clear HE3 hs
      by_cases hw1:cf l 0*cf l 2<W
      ·have HE5:Hid (meC l W H=42):=by have:=HE4.out;rw [if_pos (.inl hw1)] at this;exact this
       have g1:decide (cf l 0*cf l 2<W)=true:=decide_eq_true hw1
       clear HE4
       go_wp2_with (go_at_call 241;(with_reducible refine hCt.mono ?_);rintro e w' ⟨rfl,rfl⟩)
       go_quiet (fail)
       go_wp2_with fail
       go_returns
       exact ⟨by rw [HE5.out];rfl,below_drewN hbc _⟩
      ·by_cases hw2:cf l 1*cf l 3<H
       ·have HE5:Hid (meC l W H=42):=by have:=HE4.out;rw [if_pos (.inr hw2)] at this;exact this
        have g1:decide (cf l 0*cf l 2<W)=false:=decide_eq_false hw1
        have g2:decide (cf l 1*cf l 3<H)=true:=decide_eq_true hw2
        clear HE4
        go_wp2_with (go_at_call 241;(with_reducible refine hCt.mono ?_);rintro e w' ⟨rfl,rfl⟩)
        go_quiet (fail)
        go_wp2_with fail
        go_returns
        exact ⟨by rw [HE5.out];rfl,below_drewN hbc _⟩
       ·exfalso
        have h0:=HE4.out
        rw [if_neg (by omega)] at h0
        exact hHC.out h0
     ·have HE4:Hid (meC l W H=30):=by have:=HE3.out;rw [if_pos hs] at this;exact this
      clear HE3 hs
      rcases hc with q0|⟨q0,q1⟩|⟨q0,q1,q2⟩|⟨q0,q1,q2,q3⟩
      all_goals
       go_wp2_with (go_at_call 241;(with_reducible refine hCt.mono ?_);rintro e w' ⟨rfl,rfl⟩)
       go_returns
       exact ⟨by rw [HE4.out];rfl,hbc⟩
    ·have HE3:Hid (meC l W H=11):=by have:=HE2.out;rw [if_pos hfr] at this;exact this
     rw [hfr] at hCt
     clear HE2 hfr
     go_wp2_with (go_at_call 241;(with_reducible refine hCt.mono ?_);rintro e w' ⟨rfl,rfl⟩)
     go_returns
     exact ⟨by rw [HE3.out];rfl,hbc⟩
   ·have HE2:Hid (meC l W H=12):=by have:=HE1.out;rw [if_pos (by rw [hHL.out,HLN.out];exact hLn)] at this;exact this
    have hbn:((n:Int) != LN)=true:=by simp [hLn]
    clear HE1 hLn
    go_wp2_with fail
    go_returns
    exact ⟨by rw [HE2.out];rfl,hbc⟩
end Go.Proofs.YtjbelhpgbcnlmaaGreat
end
section
set_option linter.unusedVariables false
namespace Go.Proofs.YtjbelhpgbcnlmaaGreat
open Go.RowKit Go.Shelf
attribute [local go_sem high] run_maxM run_minM
attribute [local go_sem] Oper.semAt_some
theorem then_none {P:Program} {c:Code} {K:Act→World→Prop} {Q:Exit→Act→World→Prop} {a:Act} {w:World} (h:c.wp P (Exit.then K (fun _ _ _=>False)) a w):c.wp P (Exit.then K Q) a w :=
 Code.wp_mono (fun e a w h=>by cases e <;> first | exact h|exact h.elim) h
theorem meC_zero {l:List Int} {W H:Int}:meC l W H=0 ↔ (4≤l.length∧meFit (cf l 0) (cf l 1) (cf l 2) (cf l 3)=true∧(l.length:Int)=meLn l∧(l.drop 4).any meFar=false∧szH W H=true∧W≤cf l 0*cf l 2∧H≤cf l 1*cf l 3):=by
 unfold meC
 by_cases h1:l.length<4
 ·rw [if_pos h1];constructor
  ·intro h;cases h
  ·rintro ⟨h,_⟩;omega
 rw [if_neg h1]
 cases h2:meFit (cf l 0) (cf l 1) (cf l 2) (cf l 3)
 ·rw [if_pos rfl];constructor
  ·intro h;cases h
  ·rintro ⟨_,h,_⟩;cases h
 rw [if_neg (by decide)]
 by_cases h3:(l.length:Int)=meLn l
 ·rw [if_neg (by simpa using h3)]
  cases h4:(l.drop 4).any meFar
  ·rw [if_neg (by decide)]
   cases h5:szH W H
   ·rw [if_pos rfl];constructor
    ·intro h;cases h
    ·rintro ⟨_,_,_,_,h,_⟩;cases h
   ·rw [if_neg (by decide)]
    split
    ·rename_i h6;constructor
     ·intro h;cases h
     ·rintro ⟨_,_,_,_,_,h7,h8⟩;omega
    ·rename_i h6;constructor
     ·intro _;exact ⟨by omega,rfl,h3,rfl,rfl,by omega,by omega⟩
     ·intro _;rfl
  ·rw [if_pos rfl];constructor
   ·intro h;cases h
   ·rintro ⟨_,_,_,h,_⟩;cases h
 ·rw [if_pos h3];constructor
  ·intro h;cases h
  ·rintro ⟨_,_,h,_⟩;exact absurd h h3
theorem meC_F {l:List Int} {W H:Int} (h:meC l W H=0):MeF l:=by
 obtain ⟨h4,hf,hl,hn,_⟩:=meC_zero.1 h
 obtain ⟨a,b,c,d⟩:=meFit_iff.1 hf
 refine ⟨a,b,c,d,fun j hj=>?_⟩
 unfold cf
 rcases Nat.lt_or_ge j l.length with hlt|hge
 ·have hm:l[j]∈l.drop 4:=List.mem_iff_getElem.2 ⟨j-4,by simp;omega,by simp [show 4+(j-4)=j by omega]⟩
  have:=List.any_eq_false.1 hn _ hm
  rw [List.getD_eq_getElem?_getD,List.getElem?_eq_getElem hlt]
  simp only [meFar,Bool.not_eq_true',Bool.not_eq_false] at this
  exact inH_iff.1 (by simpa using this)
 ·rw [List.getD_eq_getElem?_getD,List.getElem?_eq_none hge];decide
theorem wp_append_run {P:Program} {o:Oper} {a:Act} {K:Act→World→Prop} {Q:Exit→Act→World→Prop} {w w':World} {v v' sl:Value} (s x:Operand) (t:TypeId)
 (ho:o.op=.call { callee:=.builtin .append,args:=#[s,x],argTypes:=#[t,t] }) (hs:a.eval s=v) (hx:a.eval x=sl)
 (hr:(Builtin.append_ #[t,t] o.type #[v,sl]).run P w=.ok v' w') (hK:K (a.put o.dst v') w'):Oper.wp P o a w K Q:=by
 unfold Oper.wp execOp
 simp only [ho,resolve,invoke,builtin,Sem.run_bind,Sem.run_pure,Result.andThen_ok,List.map_toArray,List.map_cons,List.map_nil,hs,hx,hr]
 exact hK
set_option maxRecDepth 100000 in
set_option maxHeartbeats 16000000 in
theorem mnew_ok (l:List Int) (A:Option Addr) (n cp:Nat) (W H:Int) (w:World) {B:Nat} (hl:l.length=n) (hcp:n≤cp) (hcm:cp≤maxLen) (hn:n≤100000) (hr:Rd w B A (l.map (Value.int .i64))) (hB:B≤w.heap.size) (hC:meC l W H=0) :
 Calls Tryz.prog 169 #[.slice A n cp,.int .i64 W,.int .i64 H] w fun e w'=>∃ g b o c,e=.returned (.tuple #[.pointer (some ⟨g,0,none⟩),.int .i64 0])∧w.heap.size≤g∧w.heap.size≤b∧MeW l w' g b o c∧Below w.heap.size w w':=by
 have hb0:=Below.refl w.heap.size w
 obtain ⟨h4,hft,hlnL,hfr,hsz,hw1,hw2⟩:=meC_zero.1 hC
 have hMF:=meC_F hC
 have h4':¬(n:Int)<4:=by omega
 obtain ⟨b,o,rfl,hb,hc⟩:=lget4 h4 hr
 have c0:=hc 0 (by omega)
 have c1:=hc 1 (by omega)
 have c2:=hc 2 (by omega)
 have c3:=hc 3 (by omega)
 have hbw:b<w.heap.size:=by omega
 rw [Nat.add_zero] at c0
 have hHL:=Lib.hid hl
 have h4n:4≤n:=by omega
 have HC:=Lib.hid hC
 clear hC hl hc
 have HLL:=Lib.hid hlnL
 clear hlnL h4
 refine (callsIn_wide (n:=8)).1 ?_
 refine callsIn_of_wp_marks Tryz.func169 rfl trivial ?_ rfl
 simp only [Tryz.ntmps169,List.size_toArray,List.length_nil,List.length_cons,Nat.reduceAdd,Nat.reduceSub,Array.replicate_succ,Array.replicate_zero,List.push_toArray,List.append_toArray,List.nil_append,List.cons_append]
 refine wpIn_wide.2 ?_
 go_upto_region 3 with fail
 go_cut [8] from 10 to 127 (fun p wx=>∃ gp gm:Nat,p=.pointer (some ⟨gp,0,none⟩)∧w.heap.size≤gp∧w.heap.size≤gm∧gp≠gm∧Bk wx gp 230 #[.pointer (some ⟨gm,0,none⟩)]∧Bk wx gm 302 (msA (cf l 0) (cf l 2) (cf l 1) (cf l 3) none 0 0)∧Below w.heap.size w wx)
 case first =>
  refine then_none ?_
  go_region
  ·go_wp2_with fail
   go_meet
   refine ⟨_,_,rfl,Nat.le_succ _,Nat.le_refl _,by omega,?_,((Bk.new w 302 (msA (cf l 0) (cf l 2) (cf l 1) (cf l 3) none 0 0)).alloc _).drew,below_drewN ((hb0.alloc (Nat.le_refl _) _).alloc (by simp) _) 1⟩
   have:=(Bk.new (w.alloc (.cells (msA (cf l 0) (cf l 2) (cf l 1) (cf l 3) none 0 0) 302)) 230 #[.pointer (some ⟨w.heap.size,0,none⟩)]).drew
   simpa using this
  ·go_wp2_with fail
   go_meet
   refine ⟨_,_,rfl,Nat.le_refl _,Nat.le_succ _,by omega,((Bk.new w 230 #[.pointer (some ⟨w.heap.size+1,0,none⟩)]).alloc _).drew,?_,below_drewN ((hb0.alloc (Nat.le_refl _) _).alloc (by simp) _) 1⟩
   have:=(Bk.new (w.alloc (.cells #[.pointer (some ⟨w.heap.size+1,0,none⟩)] 230)) 302 (msA (cf l 0) (cf l 2) (cf l 1) (cf l 3) none 0 0)).drew
   simpa using this
 case rest =>
  obtain ⟨gp,gm,rfl,hgp,hgm,hne,kp,km,hbc⟩:=hcut
  clear hb0 c0 c1 c2 c3
  have hrd:Rd wc B (some ⟨b,o+4,none⟩) ((l.drop 4).map (Value.int .i64)):=by
   have:=((hr.below' hbc hB).drop 4)
   rwa [← List.map_drop] at this
  have hR0:=hr
  clear hr
  have p0:=kp.cell1
  obtain ⟨d0,d1,d2,d3,d4⟩:=km.cell5
  have hFt:=fun w'=>mfits_any (cf l 0) (cf l 1) (cf l 2) (cf l 3) w'
  rw [hft] at hFt
  have r0:=fun (n:Nat) (os:Array Obj)=>cell_regrown p0 n os
  have r1:=fun (n:Nat) (os:Array Obj)=>cell_regrown d0 n os
  have r2:=fun (n:Nat) (os:Array Obj)=>cell_regrown d1 n os
  have r3:=fun (n:Nat) (os:Array Obj)=>cell_regrown d2 n os
  have r4:=fun (n:Nat) (os:Array Obj)=>cell_regrown d3 n os
  go_upto_region 4 with fail
  refine then_none ?_
  refine wp_region_quiet_below (by kernel_rfl) (by kernel_rfl) ?_
  repeat (first
   | go_big_quiet_step ((with_reducible exact quiet_below (hFt _)))
   | quiet_step ((with_reducible exact quiet_below (hFt _))))
  refine wpQuiet_nil ?_
  intro _ hw'
  obtain ⟨⟨dd,os⟩,hw''⟩:=hw'
  subst hw''
  have hbx:=below_regrown wc dd os
  generalize Go.Sort.grow (redrawn wc dd) os=w4 at *
  replace hrd:=hrd.below' hbx (Nat.le_trans hB hbc.size)
  replace hbc:=hbc.trans (hbx.mono hbc.size)
  replace kp:=kp.nx hbx
  replace km:=km.nx hbx
  clear r0 r1 r2 r3 r4 p0 d0 d1 d2 d3 d4 hFt hbx
  have p0:=kp.cell1
  obtain ⟨d0,d1,d2,d3,d4⟩:=km.cell5
  obtain ⟨⟨a0,a1⟩,⟨a2,a3⟩,⟨a4,a5⟩,a6,a7⟩:=meFit_iff.1 hft
  have m1:1*1≤cf l 0*cf l 2:=Int.mul_le_mul a0 a4 (by omega) (by omega)
  have m2:cf l 0*cf l 2≤1024*64:=Int.mul_le_mul a1 a5 (by omega) (by omega)
  have m3:1*1≤cf l 1*cf l 3:=Int.mul_le_mul a2 a6 (by omega) (by omega)
  have m4:cf l 1*cf l 3≤1024*64:=Int.mul_le_mul a3 a7 (by omega) (by omega)
  have m5:4*2≤2*(cf l 2+1)*(cf l 3+1):=Int.mul_le_mul (by omega) (by omega) (by omega) (by omega)
  have m6:2*(cf l 2+1)*(cf l 3+1)≤130*65:=Int.mul_le_mul (by omega) (by omega) (by omega) (by omega)
  have k1:IntKind.i64.wrap (cf l 2+1)=cf l 2+1:=IntWalk.i64_in _ ⟨by omega,by omega⟩
  have k2:IntKind.i64.wrap (2*(cf l 2+1))=2*(cf l 2+1):=IntWalk.i64_in _ ⟨by omega,by omega⟩
  have k3:IntKind.i64.wrap (cf l 3+1)=cf l 3+1:=IntWalk.i64_in _ ⟨by omega,by omega⟩
  have k4:IntKind.i64.wrap (2*(cf l 2+1)*(cf l 3+1))=2*(cf l 2+1)*(cf l 3+1):=IntWalk.i64_in _ ⟨by omega,by omega⟩
  obtain ⟨LN,hLN⟩:∃ z,meLn l=z:=⟨_,rfl⟩
  have k5:IntKind.i64.wrap (4+2*(cf l 2+1)*(cf l 3+1))=LN:=by rw [← hLN];exact IntWalk.i64_in _ ⟨by omega,by omega⟩
  have HLN:=Lib.hid hLN
  have l12:12≤LN:=by rw [← hLN];unfold meLn;omega
  have k6:IntKind.i64.wrap (cf l 0*cf l 2)=cf l 0*cf l 2:=IntWalk.i64_in _ ⟨by omega,by omega⟩
  have k7:IntKind.i64.wrap (cf l 1*cf l 3)=cf l 1*cf l 3:=IntWalk.i64_in _ ⟨by omega,by omega⟩
  clear hLN a0 a1 a2 a3 a4 a5 a6 a7 m5 m6
  go_upto_region 6 with fail
  refine then_none ?_
  go_quiet (fail)
  replace hrd:=hrd.drewN nq
  replace hbc:=below_drewN hbc nq
  replace kp:=kp.drewN nq
  replace km:=km.drewN nq
  clear p0 d0 d1 d2 d3 d4 k1 k2 k3 k4 k5
  generalize w4.drewN nq=w5 at *
  have p0:=kp.cell1
  obtain ⟨d0,d1,d2,d3,d4⟩:=km.cell5
  have hLn:(n:Int)=LN:=by rw [← hHL.out,HLL.out,HLN.out]
  have hn4:(4:Int)≤(n:Int):=by omega
  have hcp4:¬cp=4:=by omega
  have hsl:∀ w':World,(Instr.slice 30 (.slice (some ⟨b,o,none⟩) n cp) (some (.int .i64 4)) none none).run Tryz.prog w'=.ok (.slice (some ⟨b,o+4,none⟩) (n-4) (cp-4)) w':=by
   intro w'
   rw [run_slice_l w' 30 _ _ _ Tryz.underlying30 _ _ (by decide) hn4]
   simp [go_sem,hcp4]
  have hCt:=ctf_mesh meFar mfar_any (l.drop 4) (some ⟨b,o+4,none⟩) (n-4) (cp-4) w5 (by rw [List.length_drop,hHL.out]) (by omega) hrd
  have hbn:((n:Int) != LN)=false:=by simp [hLn]
  have HLn:=Lib.hid hLn
  clear hLn
  rw [hfr] at hCt
  have g1:decide (cf l 0*cf l 2<W)=false:=decide_eq_false (by omega)
  have g2:decide (cf l 1*cf l 3<H)=false:=decide_eq_false (by omega)
  obtain ⟨⟨s0,s1⟩,s2,s3⟩:=szH_iff.1 hsz
  clear hfr hsz
  go_wp2_with (go_at_call 241;(with_reducible refine hCt.mono ?_);rintro e w' ⟨rfl,rfl⟩)
  refine then_none ?_
  go_quiet (fail)
  replace hrd:=hrd.drewN nq
  replace hbc:=below_drewN hbc nq
  replace kp:=kp.drewN nq
  replace km:=km.drewN nq
  clear p0 d0 d1 d2 d3 d4 hCt
  generalize w5.drewN nq=w6 at *
  have p0:=kp.cell1
  obtain ⟨d0,d1,d2,d3,d4⟩:=km.cell5
  go_wp2_with (go_at_call 243;(with_reducible refine (chunk_any _ _ _ _).mono ?_);rintro e w7 ⟨rfl,hKS,hKN,hb7⟩)
  obtain ⟨hK1,hK2,hK3⟩:=ln_K hMF HLL.out
  have hn2:n-4=2*meK l:=by have:=hHL.out;omega
  rw [hn2] at hKS
  have hlt1:=hKS.lt
  have hlt2:=hKN.lt
  have hz67:=hb7.size
  have hgpl:=kp.lt
  have hgml:=km.lt
  have kp7:=kp.nx hb7
  have km7:=km.nx hb7
  have hbc7:=hbc.trans (hb7.mono hbc.size)
  generalize w6.heap.size=gS at *
  have hcb:∀ j,j<n→w.cell? ⟨b,o+j,none⟩=some (.int .i64 (cf l j)):=by
   intro j hj
   obtain ⟨b',o',e',_,hx⟩:=hR0.get j (by rw [List.length_map,hHL.out];exact hj)
   injection e' with e'
   injection e' with e1 e2
   subst e1 e2
   rw [hx,List.getElem_map]
   unfold cf
   rw [List.getD_eq_getElem?_getD,List.getElem?_eq_getElem (by rw [hHL.out];exact hj)];rfl
  clear p0 d0 d1 d2 d3 d4 k6 k7 hsl hrd hR0 m1 m2 m3 m4
  refine (wpIn_wide (n:=8)).1 ?_
  refine' wpIn_rangeFunc_ownF rfl (by omega) (gf:=294) (lb:=#[.pointer (some ⟨gS,0,none⟩),.pointer (some ⟨gS+1,0,none⟩)]) rfl trivial (enters_of Tryz.func294 (by kernel_rfl) rfl)
   (chunk_stops Fence.wide _ trivial rfl (by omega) gS (gS+1) b (o+4) (meK l) (cp-4) (by omega) (by omega) (by omega) w7 hKS hKN) (fun h k=>KpC.t h k) (KpC.b hlt1 hlt2) (Below.refl _ _) (fun _=>rfl)
   (MInv l w w7.heap.size gp gm) (fun _ _ _=>False) (minv_own (Nat.le_refl _) (by omega) (by omega) (by omega)) (fun _ _ _ _ _ h _ _=>h) ?h0 _ ?assign ?body ?done ?stop
  case assign =>
   intro l x W K hK
   simp only [encK]
   gi_wp2
   exact hK
  case h0 =>
   exact ⟨kp7,⟨_,km7,by simpa using World.ownsRow_nil _ _ _ _⟩,hbc7,Nat.le_refl _⟩
  case stop =>
   rintro D c pre W hD hpre hX hK
   exact hX.elim
  case done =>
   rintro D ys W9 hD rfl hI hK
   obtain ⟨v,hM,hown⟩:=hI.map
   rw [upK_len,prK_all l _ _ (Nat.le_refl _) (by omega)] at hown
   obtain ⟨A9,c9,rfl,hc1,hc2,hrd9,hlen9⟩:=own_form hown
   obtain ⟨g9,rfl,hg9,hg9l⟩:=own_some hown (by omega)
   have q0:=hI.ptr.cell1
   have hbW:=hI.bel
   have hPO:∀ r,(some D:Option Nat)=some r→∃ ob:Obj,W9.heap[r]?=some ob∧ob.isCells=false:=fun r e=>by cases e;exact ⟨_,hK,rfl⟩
   gi_wp2
   go_wp2_with fail
   refine ⟨by simp,.inl ⟨_,_,rfl,run_takeDeferred hK,?_⟩⟩
   refine ⟨_,results_tmp2 rfl _ _ _,gm,g9,0,c9,rfl,hgm,by omega,⟨hM.grown (grownBy_putObj' _ D (.deferred none)) (fun e=>by injection e with e;omega),?_,fun j hj=>?_⟩,hbW.grown (grownBy_putObj' _ D (.deferred none)) hbW.size (fun k e=>by injection e with e;omega)⟩
   ·exact Nat.lt_of_lt_of_le hg9l (grownBy_putObj' W9 D (.deferred none)).size
   ·obtain ⟨b',o',e',_,hx⟩:=hrd9.get j (by simp;omega)
    injection e' with e'
    injection e' with e1 e2
    subst e1 e2
    refine cell_kept ?_ (grownBy_putObj' _ D (.deferred none)) hPO
    rw [hx]
    simp
  case body =>
   rintro lp pre x W' hI hlen
   obtain ⟨v,hM,hown⟩:=hI.map
   have hP:=hI.ptr
   obtain ⟨e0,e1,e2,e3,e4⟩:=hM.cell5
   have q0:=hP.cell1
   obtain ⟨J,hJ⟩:∃ J,ckI (meK l) x=J:=⟨_,rfl⟩
   have hJl:J<meK l:=by rw [← hJ];exact ckI_lt hK3 x
   have y0:W'.cell? ⟨b,o+4+2*J,none⟩=some (.int .i64 (cf l (4+2*J))):=by
    rw [Nat.add_assoc]
    exact (hI.bel.cell (p:=⟨b,o+(4+2*J),none⟩) hbw).trans (hcb _ (by omega))
   have y1:W'.cell? ⟨b,o+4+2*J+1,none⟩=some (.int .i64 (cf l (4+2*J+1))):=by
    rw [Nat.add_assoc,Nat.add_assoc]
    exact (hI.bel.cell (p:=⟨b,o+(4+(2*J+1)),none⟩) hbw).trans (hcb _ (by omega))
   have HJ:=Lib.hid hJ
   rw [hJ]
   clear hJ
   gi_wp2
   refine wpIn_region_of_held (S:=fun w''=>w''.cell? ⟨gp,0,none⟩=some (.pointer (some ⟨gm,0,none⟩))∧w''.cell? ⟨b,o+4+2*J,none⟩=some (.int .i64 (cf l (4+2*J)))∧w''.cell? ⟨b,o+4+2*J+1,none⟩=some (.int .i64 (cf l (4+2*J+1)))) (by kernel_rfl) (by kernel_rfl) ?_
   have hHeld:(fun w'':World=>w''.cell? ⟨gp,0,none⟩=some (.pointer (some ⟨gm,0,none⟩))∧w''.cell? ⟨b,o+4+2*J,none⟩=some (.int .i64 (cf l (4+2*J)))∧w''.cell? ⟨b,o+4+2*J+1,none⟩=some (.int .i64 (cf l (4+2*J+1)))) W'.drew:=⟨q0,y0,y1⟩
   obtain ⟨v9,w9,hap,hown9,hg9⟩:=kn_app W'.drew w7.heap.size pre.length v _ (cf l (4+2*J)) (cf l (4+2*J+1)) hown hI.sz (by omega)
   have hstep:=minv_step (gS:=gS) (x:=x) hI hM hown hg9 hown9 (by unfold prK;rw [HJ.out]) hgpl hgml hlt2 hne hgm
   have hbA:Below W'.heap.size W' (W'.drew.alloc (.cells #[.int .i64 (cf l (4+2*J)),.int .i64 (cf l (4+2*J+1))] 309)):=((Below.refl W'.heap.size W').drew).alloc (Nat.le_refl _) _
   have hge:=own_ge hown
   have hszI:=hI.sz
   have hblk:∀ i,i<w7.heap.size→w9.heap[i]?=W'.heap[i]?:=fun i hi=>by
    rw [hg9.block i (by have:=hbA.size;omega) (fun e=>by have:=hge _ e.symm;omega)]
    exact hbA.block i (by omega)
   have hbw7:b<w7.heap.size:=by have:=hbc7.size;omega
   have hAS:(fun w'':World=>w''.cell? ⟨gp,0,none⟩=some (.pointer (some ⟨gm,0,none⟩))∧w''.cell? ⟨b,o+4+2*J,none⟩=some (.int .i64 (cf l (4+2*J)))∧w''.cell? ⟨b,o+4+2*J+1,none⟩=some (.int .i64 (cf l (4+2*J+1)))) (W'.drew.alloc (.cells #[.int .i64 (cf l (4+2*J)),.int .i64 (cf l (4+2*J+1))] 309)) :=
    ⟨(hbA.cell (p:=⟨gp,0,none⟩) (by show gp<_;omega)).trans q0,(hbA.cell (p:=⟨b,o+4+2*J,none⟩) (by show b<_;omega)).trans y0,(hbA.cell (p:=⟨b,o+4+2*J+1,none⟩) (by show b<_;omega)).trans y1⟩
   have h9S:(fun w'':World=>w''.cell? ⟨gp,0,none⟩=some (.pointer (some ⟨gm,0,none⟩))∧w''.cell? ⟨b,o+4+2*J,none⟩=some (.int .i64 (cf l (4+2*J)))∧w''.cell? ⟨b,o+4+2*J+1,none⟩=some (.int .i64 (cf l (4+2*J+1)))) w9 :=
    ⟨(World.cell?_of_block (hblk gp (by omega))).trans q0,(World.cell?_of_block (hblk b hbw7)).trans y0,(World.cell?_of_block (hblk b hbw7)).trans y1⟩
   have hM9:Bk w9 gm 302 (meV5 l v):=(hblk gm (by omega)).trans hM
   have e94:=hM9.cell5.2.2.2.2
   have f94:=hM9.frozen 4
   have hzS:(fun w'':World=>w''.cell? ⟨gp,0,none⟩=some (.pointer (some ⟨gm,0,none⟩))∧w''.cell? ⟨b,o+4+2*J,none⟩=some (.int .i64 (cf l (4+2*J)))∧w''.cell? ⟨b,o+4+2*J+1,none⟩=some (.int .i64 (cf l (4+2*J+1)))) (w9.setCell ⟨gm,4,none⟩ v9) :=
    ⟨(World.cell?_setCell_other w9 ⟨gm,4,none⟩ ⟨gp,0,none⟩ v9 (fun e=>hne (by injection e with e;exact e.symm))).trans h9S.1,(World.cell?_setCell_other w9 ⟨gm,4,none⟩ ⟨b,o+4+2*J,none⟩ v9 (fun e=>by injection e with e;omega)).trans h9S.2.1,(World.cell?_setCell_other w9 ⟨gm,4,none⟩ ⟨b,o+4+2*J+1,none⟩ v9 (fun e=>by injection e with e;omega)).trans h9S.2.2⟩
   have eA4:=(hbA.cell (p:=⟨gm,4,none⟩) (by show gm<_;omega)).trans e4
   have eB4:(W'.alloc (.cells #[.int .i64 (cf l (4+2*J)),.int .i64 (cf l (4+2*J+1))] 309)).cell? ⟨gm,4,none⟩=some v:=eA4
   have hv9:∃ A9 c9,v9=.slice A9 (pre.length+1) c9:=by
    obtain ⟨A9,c9,h,_⟩:=own_form hown9
    exact ⟨A9,c9,h⟩
   obtain ⟨A9,c9,rfl⟩:=hv9
   clear hblk hcb hown hown9 hg9 hbA hge
   refine wpAnyH_take (i:=0) (v:=?_) rfl (by kernel_rfl) (by kernel_rfl) (by kernel_rfl) (fun _ _ _ h=>h) (Or.inl ⟨by rfl,?_⟩) (by assumption) ?_
   rotate_left
   ·(intro w hSw;(try dsimp only at hSw);go_simp;try with_reducible rfl)
   refine wpAnyH_take (i:=1) (v:=?_) rfl (by kernel_rfl) (by kernel_rfl) (by kernel_rfl) (fun _ _ _ h=>h) (Or.inl ⟨by rfl,?_⟩) (by assumption) ?_
   rotate_left
   ·(intro w hSw;(try dsimp only at hSw);go_simp;try with_reducible rfl)
   refine wpAnyH_take (i:=2) (v:=?_) rfl (by kernel_rfl) (by kernel_rfl) (by kernel_rfl) (fun _ _ _ h=>h) (Or.inl ⟨by rfl,?_⟩) (by assumption) ?_
   rotate_left
   ·(intro w hSw;(try dsimp only at hSw);go_simp;try with_reducible rfl)
   refine wpAnyH_take (i:=3) (v:=?_) rfl (by kernel_rfl) (by kernel_rfl) (by kernel_rfl) (fun _ _ _ h=>h) (Or.inl ⟨by rfl,?_⟩) (by assumption) ?_
   rotate_left
   ·(intro w hSw;(try dsimp only at hSw);go_simp;try with_reducible rfl)
   refine wpAnyH_take (i:=5) (v:=?_) rfl (by kernel_rfl) (by kernel_rfl) (by kernel_rfl) (fun _ _ _ h=>h) (Or.inl ⟨by rfl,?_⟩) (by assumption) ?_
   rotate_left
   ·(intro w hSw;(try dsimp only at hSw);go_simp;try with_reducible rfl)
   refine wpAnyH_take (i:=6) (v:=?_) rfl (by kernel_rfl) (by kernel_rfl) (by kernel_rfl) (fun _ _ _ h=>h) (Or.inl ⟨by rfl,?_⟩) (by assumption) ?_
   rotate_left
   ·(intro w hSw;(try dsimp only at hSw);go_simp;try with_reducible rfl)
   refine wpAnyH_take (i:=7) (v:=?_) rfl (by kernel_rfl) (by kernel_rfl) (by kernel_rfl) (fun _ _ _ h=>h) (Or.inl ⟨by rfl,?_⟩) (by assumption) ?_
   rotate_left
   ·(intro w hSw;(try dsimp only at hSw);go_simp;try with_reducible rfl)
   refine wpAnyH_take (i:=8) (v:=?_) rfl (by kernel_rfl) (by kernel_rfl) (by kernel_rfl) (fun _ _ _ h=>h) (Or.inl ⟨by rfl,?_⟩) (by assumption) ?_
   rotate_left
   ·(intro w hSw;(try dsimp only at hSw);go_simp;try with_reducible rfl)
   refine wpAnyH_take (i:=9) (v:=?_) rfl (by kernel_rfl) (by kernel_rfl) (by kernel_rfl) (fun _ _ _ h=>h) (Or.inl ⟨by rfl,?_⟩) (by assumption) ?_
   rotate_left
   ·(intro w hSw;(try dsimp only at hSw);go_simp;try with_reducible rfl)
   refine wpAnyH_take (i:=10) (v:=?_) rfl (by kernel_rfl) (by kernel_rfl) (by kernel_rfl) (fun _ _ _ h=>h) (Or.inl ⟨by rfl,?_⟩) (by assumption) ?_
   rotate_left
   ·(intro w hSw;(try dsimp only at hSw);go_simp;try with_reducible rfl)
   refine wpAnyH_take (i:=11) (v:=?_) rfl (by kernel_rfl) (by kernel_rfl) (by kernel_rfl) (fun _ _ _ h=>h) (Or.inl ⟨by rfl,?_⟩) (by assumption) ?_
   rotate_left
   ·(intro w hSw;(try dsimp only at hSw);go_simp;try with_reducible rfl)
   refine wpAnyH_ready (rs:=[4,12]) (by kernel_rfl) (by simp) ?_
   refine AllReadyH.cons rfl (fun K hK=>?_) (AllReadyH.cons rfl (fun K hK=>?_) AllReadyH.nil)
   ·go_simp
    refine hK.out _ _ hHeld (fun hHeld=>?_)
    clear hK K
    refine wpAnyH_ready (rs:=[12]) (by kernel_rfl) (by simp) ?_
    refine AllReadyH.cons rfl (fun K hK=>?_) AllReadyH.nil
    go_simp
    refine hK.out _ _ hAS (fun hHeld=>?_)
    clear hK K
    refine wpAnyH_ready (rs:=[13]) (by kernel_rfl) (by simp) ?_
    refine AllReadyH.cons rfl (fun K hK=>?_) AllReadyH.nil
    rw [if_pos (by kernel_rfl)]
    refine wp_append_run (v:=v) _ _ _ rfl rfl rfl hap ?_
    go_simp
    refine hK.out _ _ h9S (fun hHeld=>?_)
    clear hK K
    refine wpAnyH_take (i:=14) (v:=?_) rfl (by kernel_rfl) (by kernel_rfl) (by kernel_rfl) (fun _ _ _ h=>h) (Or.inl ⟨by rfl,?_⟩) (by assumption) ?_
    rotate_left
    ·(intro w hSw;(try dsimp only at hSw);go_simp;try with_reducible rfl)
    refine wpAnyH_take (i:=15) (v:=?_) rfl (by kernel_rfl) (by kernel_rfl) (by kernel_rfl) (fun _ _ _ h=>h) (Or.inl ⟨by rfl,?_⟩) (by assumption) ?_
    rotate_left
    ·(intro w hSw;(try dsimp only at hSw);go_simp;try with_reducible rfl)
    refine wpAnyH_ready (rs:=[16]) (by kernel_rfl) (by simp) ?_
    refine AllReadyH.cons rfl (fun K hK=>?_) AllReadyH.nil
    go_simp
    refine hK.out _ _ hzS (fun hHeld=>?_)
    clear hK K
    refine wpAnyH_done (by kernel_rfl) ?_ _
    change Exit.inBlock 2 _ Exit.normal _ _
    gi_wp2
    exact hstep
   ·go_simp
    refine hK.out _ _ hAS (fun hHeld=>?_)
    clear hK K
    refine wpAnyH_ready (rs:=[4]) (by kernel_rfl) (by simp) ?_
    refine AllReadyH.cons rfl (fun K hK=>?_) AllReadyH.nil
    go_simp
    refine hK.out _ _ hAS (fun hHeld=>?_)
    clear hK K
    refine wpAnyH_ready (rs:=[13]) (by kernel_rfl) (by simp) ?_
    refine AllReadyH.cons rfl (fun K hK=>?_) AllReadyH.nil
    rw [if_pos (by kernel_rfl)]
    refine wp_append_run (v:=v) _ _ _ rfl rfl rfl hap ?_
    go_simp
    refine hK.out _ _ h9S (fun hHeld=>?_)
    clear hK K
    refine wpAnyH_take (i:=14) (v:=?_) rfl (by kernel_rfl) (by kernel_rfl) (by kernel_rfl) (fun _ _ _ h=>h) (Or.inl ⟨by rfl,?_⟩) (by assumption) ?_
    rotate_left
    ·(intro w hSw;(try dsimp only at hSw);go_simp;try with_reducible rfl)
    refine wpAnyH_take (i:=15) (v:=?_) rfl (by kernel_rfl) (by kernel_rfl) (by kernel_rfl) (fun _ _ _ h=>h) (Or.inl ⟨by rfl,?_⟩) (by assumption) ?_
    rotate_left
    ·(intro w hSw;(try dsimp only at hSw);go_simp;try with_reducible rfl)
    refine wpAnyH_ready (rs:=[16]) (by kernel_rfl) (by simp) ?_
    refine AllReadyH.cons rfl (fun K hK=>?_) AllReadyH.nil
    go_simp
    refine hK.out _ _ hzS (fun hHeld=>?_)
    clear hK K
    refine wpAnyH_done (by kernel_rfl) ?_ _
    change Exit.inBlock 2 _ Exit.normal _ _
    gi_wp2
    exact hstep
end Go.Proofs.YtjbelhpgbcnlmaaGreat
end
end
