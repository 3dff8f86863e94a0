/- Several texts in one: SamplePixels: the law walked. -/
import Derived.Test.YtjbelhpgbcnlmaaGreatSamplePixelsZz25
import Derived.Test.YtjbelhpgbcnlmaaGreatSamplePixelsZz35
import Derived.Test.YtjbelhpgbcnlmaaGreatSamplePixelsZz32
import Derived.Test.YtjbelhpgbcnlmaaGreatSamplePixelsZz36
import Derived.Deep.DeepCutAuto
section
set_option linter.unusedVariables false
namespace Go.Proofs.YtjbelhpgbcnlmaaGreat
open Go.RowKit
theorem lv_top (d:Int):∀ M:Nat,lv d M≤M
 | 0=>Nat.le_refl _
 | M+1=>by
   unfold lv
   split
   ·exact Nat.le_refl _
   ·exact Nat.le_succ_of_le (lv_top d M)
abbrev p7V (kx:Int) (Ax:Option Addr) (nx cx:Nat) (W H x y l:Int):Array Value:=#[.int .i64 kx,.slice Ax nx cx,.int .i64 W,.int .i64 H,.int .i64 x,.int .i64 y,.int .i64 l]
structure PxW (w:World) (m:Im) (A:Option Addr) (cp:Nat) (kk nn mo c0 c1 c2 c3 kx:Int) (Ax:Option Addr) (nx cx:Nat) (W H x y l:Int) (wx:World):Prop where
 bel:Below w.heap.size w wx
 k3:Bk wx w.heap.size 24 #[.int .i64 m.W,.int .i64 m.H,.int .i64 m.C,.slice A m.px.length cp]
 k4:Bk wx (w.heap.size+1) 29 (howV kk nn mo c0 c1 c2 c3)
 k5:Bk wx (w.heap.size+1+1) 34 (p7V kx Ax nx cx W H x y l)
section
variable {w:World} {m:Im} {A:Option Addr} {cp:Nat} {kk nn mo c0 c1 c2 c3 kx:Int} {Ax:Option Addr} {nx cx:Nat} {W H x y l:Int} {wx wy:World}
theorem PxW.nx' (h:PxW w m A cp kk nn mo c0 c1 c2 c3 kx Ax nx cx W H x y l wx) (hb:Below wx.heap.size wx wy):PxW w m A cp kk nn mo c0 c1 c2 c3 kx Ax nx cx W H x y l wy :=
 ⟨h.bel.trans (hb.mono h.bel.size),h.k3.nx hb,h.k4.nx hb,h.k5.nx hb⟩
end
theorem cell7p {w:World} {g:Nat} {t:TypeId} {v0 v1 v2 v3 v4 v5 v6:Value} (h:Bk w g t #[v0,v1,v2,v3,v4,v5,v6]):w.cell? ⟨g,0,none⟩=some v0∧w.cell? ⟨g,1,none⟩=some v1∧w.cell? ⟨g,2,none⟩=some v2∧w.cell? ⟨g,3,none⟩=some v3∧w.cell? ⟨g,4,none⟩=some v4∧w.cell? ⟨g,5,none⟩=some v5∧w.cell? ⟨g,6,none⟩=some v6 :=
 ⟨by rw [h.cell];rfl,by rw [h.cell];rfl,by rw [h.cell];rfl,by rw [h.cell];rfl,by rw [h.cell];rfl,by rw [h.cell];rfl,by rw [h.cell];rfl⟩
set_option maxRecDepth 100000 in
set_option maxHeartbeats 16000000 in
theorem pix_walk (m:Im) (A:Option Addr) (cp:Nat) (kk nn mo c0 c1 c2 c3 kx:Int) (Ax:Option Addr) (nx cx:Nat) (W H x y l:Int) (Cz:Int) (F G E:Int→Int→Int→Int) (w:World) (hA:Rd w w.heap.size A (m.px.map (Value.int .u8))) (hcp:m.px.length≤cp) (hby:∀ j,0≤m.px.getD j 0∧m.px.getD j 0≤255) (hpl:m.px.length≤9223372036854775807)
 (h0:0≤c0∧c0≤255) (h1:0≤c1∧c1≤255) (h2:0≤c2∧c2≤255) (h3:0≤c3∧c3≤255)
 (hN:NewMp kx Ax nx cx W H w Cz F G E)
 (hCk:∀ w':World,Below w.heap.size w w'→Calls Tryz.prog 16 #[xfV kx Ax nx cx,.int .i64 W,.int .i64 H] w' fun e w''=>e=.returned (.int .i64 Cz)∧Below w'.heap.size w' w'')
 (hAt:Cz=0→∀ (a b d:Int) (w':World),Below w.heap.size w w'→Calls Tryz.prog 59 #[xfV kx Ax nx cx,.int .i64 a,.int .i64 b,.int .i64 d] w' fun e w''=>e=.returned (.tuple #[.int .i64 (F a b d),.int .i64 (G a b d),.int .i64 (E a b d)])∧Below w'.heap.size w' w'')
 (hP:Cz=0→(W≤32768∧H≤32768)∧∀ a b d:Int,1≤d→d≤16→-d≤2*a→2*a≤(2*W-1)*d→-d≤2*b→2*b≤(2*H-1)*d→E a b d=0∧I46 (F a b d)∧I46 (G a b d)) :
 Calls Tryz.prog 3 #[.agg #[.int .i64 m.W,.int .i64 m.H,.int .i64 m.C,.slice A m.px.length cp],.agg (howV kk nn mo c0 c1 c2 c3),.agg (p7V kx Ax nx cx W H x y l)] w fun e w'=>e=.returned (.bool true)∧Below w.heap.size w w':=by
 have hF:=fun w'=>fewi_any m A cp 3000 w'
 have HBY:=Lib.hid hby
 have HCP:=Lib.hid hcp
 have HH0:=Lib.hid h0
 have HH1:=Lib.hid h1
 have HH2:=Lib.hid h2
 have HH3:=Lib.hid h3
 have HP:=Lib.hid hP
 have HAT:=Lib.hid hAt
 clear hby hcp h0 h1 h2 h3 hP hAt
 have hS:PxW w m A cp kk nn mo c0 c1 c2 c3 kx Ax nx cx W H x y l (((w.alloc (.cells #[.int .i64 m.W,.int .i64 m.H,.int .i64 m.C,.slice A m.px.length cp] 24)).alloc (.cells (howV kk nn mo c0 c1 c2 c3) 29)).alloc (.cells (p7V kx Ax nx cx W H x y l) 34)):=by
  refine ⟨(((Below.refl _ w).alloc (Nat.le_refl _) _).alloc (by simp) _).alloc (by simp <;> omega) _,((Bk.new w _ _).alloc _).alloc _,?_,?_⟩
  ·have:=(Bk.new (w.alloc (.cells #[.int .i64 m.W,.int .i64 m.H,.int .i64 m.C,.slice A m.px.length cp] 24)) 29 (howV kk nn mo c0 c1 c2 c3)).alloc (.cells (p7V kx Ax nx cx W H x y l) 34)
   simpa using this
  ·have:=Bk.new ((w.alloc (.cells #[.int .i64 m.W,.int .i64 m.H,.int .i64 m.C,.slice A m.px.length cp] 24)).alloc (.cells (howV kk nn mo c0 c1 c2 c3) 29)) 34 (p7V kx Ax nx cx W H x y l)
   simpa using this
 go_enter Tryz.func3,Tryz.ntmps3
 go_upto_region 1 with fail
 generalize (((w.alloc (.cells #[.int .i64 m.W,.int .i64 m.H,.int .i64 m.C,.slice A m.px.length cp] 24)).alloc (.cells (howV kk nn mo c0 c1 c2 c3) 29)).alloc (.cells (p7V kx Ax nx cx W H x y l) 34))=w0 at *
 obtain ⟨d0,d1,d2,d3⟩:=hS.k3.cell4
 obtain ⟨f0,f1,f2,f3,f4,f5,f6⟩:=cell7p hS.k5
 by_cases hc:m.px.length≤3000∧nx≤9000∧0≤l∧l≤15
 ·have g0:decide ((m.px.length:Int)≤3000)=true:=by simp;omega
  have g1:decide (l<0)=false:=by simp;omega
  have g2:decide (l > 15)=false:=by simp;omega
  have g3:decide (15<l)=false:=by simp;omega
  have g4:decide ((nx:Int) > 9000)=false:=by simp;omega
  have g5:decide (9000<(nx:Int))=false:=by simp;omega
  simp only [g0] at hF
  go_wp2_with fail
  refine (hF _).mono ?_
  rintro e w1 ⟨rfl,hb1⟩
  have hS1:=hS.nx' hb1
  obtain ⟨d0,d1,d2,d3⟩:=hS1.k3.cell4
  obtain ⟨f0,f1,f2,f3,f4,f5,f6⟩:=cell7p hS1.k5
  have hPy:=rpyr_any m A cp l w1 (B:=w.heap.size) (hA.below' hS1.bel (Nat.le_refl _)) hS1.bel.size HCP.out HBY.out
  have hall:=pyrU_ok l.toNat m
  have hlen:=pyrU_len l.toNat m
  have himg:=pyrU_images (n:=l.toNat) (m:=m)
  unfold PyrP at hPy
  obtain ⟨ims,hims⟩:∃ ims,pyrU l.toNat m=ims:=⟨_,rfl⟩
  simp only [hims] at hPy hall hlen himg
  obtain ⟨n,hn⟩:∃ n,ims.length=n:=⟨_,rfl⟩
  simp only [hn] at hPy hlen
  have hl16:l.toNat≤15:=by omega
  have hn16:n≤16:=by omega
  have hn1:1≤n:=hlen.1
  have HALL:=Lib.hid hall
  have HIMG:=Lib.hid himg
  have HNN:=Lib.hid hn
  clear hb1 hS hF hims hall himg hn hl16 hlen
  go_wp2_with fail
  refine hPy.mono ?_
  rintro e w2 ⟨hb2,hP2⟩
  have hS2:=hS1.nx' hb2
  clear hPy hb2 hS1 d0 d1 d2 d3 f0 f1 f2 f3 f4 f5 f6
  obtain ⟨e0,e1,e2,e3,e4,e5,e6⟩:=cell7p hS2.k4
  have hR:=fun w'=>rkchk_any kk nn mo c0 c1 c2 c3 w'
  rcases hP2 with ⟨z,hz,rfl⟩|⟨hIm,hl0,hl1,A2,q2,rfl,hq2,hqm,hA2⟩
  ·have hzb:(z != 0)=true:=by simpa using hz
   clear hz
   go_wp2_with fail
   go_returns
   exact ⟨rfl,hS2.bel⟩
  ·by_cases hk:kerC kk nn mo=0
   ·rw [hk] at hR
    have HK:=Lib.hid hk
    clear hk
    go_wp2_with fail
    refine (hR _).mono ?_
    rintro e w3 ⟨rfl,hb3⟩
    have hS3:=hS2.nx' hb3
    have hA3:=hA2.nx hb3 (Nat.le_refl _)
    clear hR hS2 hA2 hb3 e0 e1 e2 e3 e4 e5 e6
    have hO:=of_ims ims A2 n q2 0 w3 HNN.out hA3 (by omega) (fun x hx=>by
     have h1:=(HALL.out hIm x hx).1
     obtain ⟨W,H,C,_,_,_,hWb,hHb,hCb,hpp,hnn⟩:=h1.nat
     have h2:W*H*C≤W*H*4:=Nat.mul_le_mul_left _ (by omega)
     omega)
    have hI0:=HIMG.out hIm
    go_wp2_with fail
    refine hO.mono ?_
    rintro e w4 ⟨hb4,⟨h1,_⟩|⟨_,v4,rfl,ho4⟩⟩
    ·exact absurd hI0 h1
    have hS4:=hS3.nx' hb4
    have hA4:=hA3.nx hb4 (Nat.le_refl _)
    clear hO hS3 hA3 hb4
    have hfm:=ho4.form
    rw [HNN.out] at hfm
    obtain ⟨A5,q5,rfl,hq5,hqm5,hB4⟩:=hfm
    have hN2:=fun w'=>snew_ok (.slice A5 n q5) kk nn mo c0 c1 c2 c3 w' HK.out
    clear ho4
    obtain ⟨e0,e1,e2,e3,e4,e5,e6⟩:=cell7p hS4.k4
    go_wp2_with fail
    refine (hN2 _).mono ?_
    rintro e w5 ⟨g,nm,fb,fr,rfl,hg,hK5,hfb,hb5⟩
    have hS5:=hS4.nx' hb5
    have hA5:=hA4.nx hb5 (Nat.le_refl _)
    have hB5:=hB4.nx hb5 (Nat.le_refl _)
    have hNn:=hN _ hS5.bel
    clear hN hN2 hS4 hA4 hB4 hb5 hg e0 e1 e2 e3 e4 e5 e6
    obtain ⟨f0,f1,f2,f3,f4,f5,f6⟩:=cell7p hS5.k5
    go_wp2_with fail
    refine hNn.mono ?_
    rintro e w6 ⟨p,rfl,hp0,hp1,hb6⟩
    have hS6:=hS5.nx' hb6
    have hA6:=hA5.nx hb6 (Nat.le_refl _)
    have hB6:=hB5.nx hb6 (Nat.le_refl _)
    have hK6:=hK5.nx hb6
    have hAl:=fun w'=>alive33 w'
    clear hNn hS5 hA5 hB5 hK5 hb6 f0 f1 f2 f3 f4 f5 f6
    obtain ⟨f0,f1,f2,f3,f4,f5,f6⟩:=cell7p hS6.k5
    by_cases hz:Cz=0
    ·subst hz
     obtain ⟨hM,q,rfl,hq,v,hX⟩:=hp1 rfl
     obtain ⟨⟨hW,hH⟩,hPl⟩:=HP.out rfl
     have hAt:=HAT.out rfl
     clear hp0 hp1
     by_cases hin:(0≤x∧x<W)∧(0≤y∧y<H)
     ·obtain ⟨hx,hy⟩:=hin
      obtain ⟨kN,hkN⟩:∃ kN,lv (rchZ F G W H x y) (lvTop ((n:Int)-1))=kN:=⟨_,rfl⟩
      have hkn:kN<ims.length:=by
       rw [HNN.out,← hkN]
       have h1:=lv_top (rchZ F G W H x y) (lvTop ((n:Int)-1))
       have h2:lvTop ((n:Int)-1)≤n-1:=by unfold lvTop;omega
       omega
      have hxm:=HALL.out hIm ims[kN] (List.getElem_mem hkn)
      obtain ⟨Wm,Hm,C,_,_,hC,_,_,hC4,_,_⟩:=hIm.nat
      have hCk2:ims[kN].C=C:=hxm.2.trans hC
      have hC0:(im0 ims).C=C:=by
       have h1:=HALL.out hIm ims[0] (List.getElem_mem (by omega))
       have h2:im0 ims=ims[0]'(by omega):=by
        unfold im0
        cases ims with
        | nil=>simp at hkn
        | cons a r=>rfl
       rw [h2];exact h1.2.trans hC
      have hk1:=HK.out
      have hkk:(0≤kk∧kk≤3)∧(kk=3→1≤nn∧nn≤8):=by
       unfold kerC at hk1
       split at hk1
       ·cases hk1
       ·split at hk1
        ·cases hk1
        ·omega
      have hPx:PixIn ims n C kN kk nn mo c0 c1 c2 c3 F G E W H x y:=⟨HNN.out,⟨hn1,hn16⟩,by omega,hkn,hxm.1.1,hCk2,hC0,fun x y j=>pxM_byte hxm.1.2 HH0.out HH1.out HH2.out HH3.out x y j,hkk.1,hkk.2,hx,hy,hW,hH,hPl,hkN⟩
      have hPs:=hPx.spix (c:=q5) (w:=w6) hB6 hK6 hfb hX (fun a b d w' hb=>hM w' hb.size (fun i _ h=>hb.block i h) a b d)
      have hPr:∀ w',Below w6.heap.size w6 w'→Calls Tryz.prog 19 #[.slice A2 n q2,.int .i64 kk,.int .i64 nn,bdV mo c0 c1 c2 c3,xfV kx Ax nx cx,.int .i64 W,.int .i64 H,.int .i64 x,.int .i64 y] w' (fun e w''=>∃ s,e=.returned s∧w''.ownsRow w'.heap.size 5 1 s C ((pixL (ims[kN]'hkn) C kk nn mo c0 c1 c2 c3 F G x y kN).map (Value.int .u8))∧Below w'.heap.size w' w''):=fun w' hb =>
       hPx.rpix (ImsAt.nx hA6 hb (Nat.le_refl _)) (fun a b d w'' hb2=>hAt a b d w'' (hS6.bel.trans ((hb.trans (hb2.mono hb.size)).mono hS6.bel.size)))
      have hL:(pixL (ims[kN]'hkn) C kk nn mo c0 c1 c2 c3 F G x y kN).length=C:=by
       unfold pixL
       split
       ·simp
       ·exact kerL_len hxm.1.1 hCk2
      generalize pixL (ims[kN]'hkn) C kk nn mo c0 c1 c2 c3 F G x y kN=L at *
      clear hk1 hkk hC0 hCk2 hC hxm hM hX hPl hAt hPx hfb hK6 hB6 hkN hkn hq hC4 hIm hA6
      go_wp2_with fail
      refine hPs.mono ?_
      rintro e w7 ⟨s7,rfl,ho7,hb7⟩
      have hS7:=hS6.nx' hb7
      have hPr:=fun (w':World) (hb:Below w7.heap.size w7 w')=>hPr w' (hb7.trans (hb.mono hb7.size))
      obtain ⟨A7,q7,rfl,hq7,_,hr7,_⟩:=own_form ho7
      obtain ⟨hx0,hx1⟩:=hx
      obtain ⟨hy0,hy1⟩:=hy
      clear hPs hS6 hb7 ho7 f0 f1 f2 f3 f4 f5 f6
      obtain ⟨f0,f1,f2,f3,f4,f5,f6⟩:=cell7p hS7.k5
      go_wp2_with fail
      refine (hCk _ hS7.bel).mono ?_
      rintro e w8 ⟨rfl,hb8⟩
      have hS8:=hS7.nx' hb8
      have hr8:=(hr7.below hb8).more hb8.size
      have hPr:=hPr _ hb8
      clear hS7 hb8 hr7 f0 f1 f2 f3 f4 f5 f6
      obtain ⟨f0,f1,f2,f3,f4,f5,f6⟩:=cell7p hS8.k5
      obtain ⟨e0,e1,e2,e3,e4,e5,e6⟩:=cell7p hS8.k4
      go_wp2_with fail
      refine hPr.mono ?_
      rintro e w9 ⟨s9,rfl,ho9,hb9⟩
      have hS9:=hS8.nx' hb9
      have hr9:=(hr8.below hb9).more hb9.size
      obtain ⟨A9,q9,rfl,hq9,_,hs9,_⟩:=own_form ho9
      clear hPr hS8 hb9 hr8 ho9 f0 f1 f2 f3 f4 f5 f6 e0 e1 e2 e3 e4 e5 e6
      go_wp2_with fail
      refine (same14 L A7 A9 C q7 q9 _ hL hr9 hs9).mono ?_
      rintro e wa ⟨rfl,hba⟩
      have hSa:=hS9.nx' hba
      go_wp2_with fail
      refine (hAl _).mono ?_
      rintro e wz ⟨rfl,hbz⟩
      go_wp2_with fail
      go_returns
      exact ⟨rfl,(hSa.nx' hbz).bel⟩
     ·have hR:=reach_out kx W H x y v q w6 hX hin
      have hO:=lof_err (some ⟨q,0,none⟩) x y ((n:Int)-1) 11 w6 (by show (11:Int)≠0;decide) hR
      have hPs:=spix_err A5 n q5 g nm fb fr nn (kk==3) mo c0 c1 c2 c3 x y 11 (some ⟨q,0,none⟩) w6 hK6 ⟨hn1,hn16⟩ (by show (11:Int)≠0;decide) hO
      clear hR hO hM hX hPl hAt hfb hK6 hB6 hq hIm hA6
      rcases out_cases hin with h0|⟨h0,h1⟩|⟨h0,h1,h2⟩|⟨h0,h1,h2,h3⟩
      all_goals
       clear hin
       go_wp2_with fail
       refine hPs.mono ?_
       rintro e w7 ⟨rfl,hb7⟩
       have hS7:=hS6.nx' hb7
       clear hPs hb7 hS6 f0 f1 f2 f3 f4 f5 f6
       obtain ⟨f0,f1,f2,f3,f4,f5,f6⟩:=cell7p hS7.k5
       go_wp2_with fail
       refine (hCk _ hS7.bel).mono ?_
       rintro e w8 ⟨rfl,hb8⟩
       have hS8:=hS7.nx' hb8
       clear hb8 hS7 f0 f1 f2 f3 f4 f5 f6
       obtain ⟨f0,f1,f2,f3,f4,f5,f6⟩:=cell7p hS8.k5
       go_wp2_with fail
       refine (hAl _).mono ?_
       rintro e w9 ⟨rfl,hb9⟩
       go_wp2_with fail
       go_returns
       exact ⟨rfl,(hS8.nx' hb9).bel⟩
    ·obtain rfl:=hp0 hz
     have hbz:(Cz != 0)=true:=by simp [hz]
     have hO:=lof_err none x y ((n:Int)-1) 10 w6 (by show (10:Int)≠0;decide) ((reach_nil x y w6).mono (fun e w'' ⟨h1,h2⟩=>⟨h1,by subst h2;exact Below.refl _ _⟩))
     have hPs:=spix_err A5 n q5 g nm fb fr nn (kk==3) mo c0 c1 c2 c3 x y 10 none w6 hK6 ⟨hn1,hn16⟩ (by show (10:Int)≠0;decide) hO
     have HZ:=Lib.hid hz
     clear hp0 hp1 hz hO hfb hK6 hB6 hA6 hIm
     go_wp2_with fail
     refine hPs.mono ?_
     rintro e w7 ⟨rfl,hb7⟩
     have hS7:=hS6.nx' hb7
     obtain ⟨f0,f1,f2,f3,f4,f5,f6⟩:=cell7p hS7.k5
     clear hPs
     go_wp2_with fail
     refine (hCk _ hS7.bel).mono ?_
     rintro e w8 ⟨rfl,hb8⟩
     have hS8:=hS7.nx' hb8
     go_wp2_with fail
     refine (hAl _).mono ?_
     rintro e w9 ⟨rfl,hb9⟩
     go_wp2_with fail
     go_returns
     exact ⟨rfl,(hS8.nx' hb9).bel⟩
   ·have hkb:(kerC kk nn mo != 0)=true:=by simpa using hk
    generalize kerC kk nn mo=kc at *
    have HK:=Lib.hid hk
    clear hk
    go_wp2_with (go_at_call 11;(with_reducible refine (hR _).mono ?_);rintro e w3 ⟨rfl,hb3⟩)
    go_returns
    exact ⟨rfl,(hS2.nx' hb3).bel⟩
 ·clear hN hCk
  by_cases hc1:m.px.length≤3000
  ·have g0:decide ((m.px.length:Int)≤3000)=true:=by simp;omega
   simp only [g0] at hF
   rcases (show 9000<nx∨(nx≤9000∧l<0)∨(nx≤9000∧0≤l∧15<l) by omega) with h9|⟨h9,hl⟩|⟨h9,hl,hl2⟩
   all_goals
    first
     | (have g1:decide ((nx:Int) > 9000)=true:=by simp;omega)
     | (have g1:decide ((nx:Int) > 9000)=false:=by simp;omega)
    first
     | (have g2:decide (l<0)=true:=by simp;omega)
     | (have g2:decide (l<0)=false:=by simp;omega)
     | skip
    first
     | (have g3:decide (l > 15)=true:=by simp;omega)
     | skip
    clear hc
    go_wp2_with fail
    refine (hF _).mono ?_
    rintro e w1 ⟨rfl,hb1⟩
    have hS1:=hS.nx' hb1
    clear f0 f1 f2 f3 f4 f5 f6
    obtain ⟨f0,f1,f2,f3,f4,f5,f6⟩:=cell7p hS1.k5
    go_wp2_with fail
    go_returns
    exact ⟨rfl,hS1.bel⟩
  ·have g0:decide ((m.px.length:Int)≤3000)=false:=by simp;omega
   simp only [g0] at hF
   clear hc hc1
   go_wp2_with fail
   refine (hF _).mono ?_
   rintro e w1 ⟨rfl,hb1⟩
   have hS1:=hS.nx' hb1
   go_wp2_with fail
   go_returns
   exact ⟨rfl,hS1.bel⟩
theorem ca_pix33:Tryz.prog.cellsOf 34=7:=by kernel_rfl
theorem ca_xf33:Tryz.prog.cellsOf 32=2:=by kernel_rfl
theorem ca_in33:Tryz.prog.cellsOf 3=1:=by kernel_rfl
set_option maxRecDepth 100000 in
theorem open_pix33 {w:World} {cs:List Value} (h:Rv Tryz.prog w 34 cs):∃ (u v:Value) (a b c d e:Int),cs=[u,v,.int .i64 a,.int .i64 b,.int .i64 c,.int .i64 d,.int .i64 e]∧Rv Tryz.prog w 32 [u,v]:=by
 obtain ⟨hl,hf⟩:=rv_struct Tryz.underlying34 h
 rw [ca_pix33] at hl
 match cs,hl with
 | [v0,v1,v2,v3,v4,v5,v6],_ =>
   have g0:Rv Tryz.prog w 32 (([v0,v1,v2,v3,v4,v5,v6].drop 0).take (Tryz.prog.cellsOf 32)):=hf 0 _ rfl
   have g1:Rv Tryz.prog w 3 (([v0,v1,v2,v3,v4,v5,v6].drop 2).take (Tryz.prog.cellsOf 3)):=hf 1 _ rfl
   have g2:Rv Tryz.prog w 3 (([v0,v1,v2,v3,v4,v5,v6].drop 3).take (Tryz.prog.cellsOf 3)):=hf 2 _ rfl
   have g3:Rv Tryz.prog w 3 (([v0,v1,v2,v3,v4,v5,v6].drop 4).take (Tryz.prog.cellsOf 3)):=hf 3 _ rfl
   have g4:Rv Tryz.prog w 3 (([v0,v1,v2,v3,v4,v5,v6].drop 5).take (Tryz.prog.cellsOf 3)):=hf 4 _ rfl
   have g5:Rv Tryz.prog w 3 (([v0,v1,v2,v3,v4,v5,v6].drop 6).take (Tryz.prog.cellsOf 3)):=hf 5 _ rfl
   rw [ca_in33] at g1 g2 g3 g4 g5
   rw [ca_xf33] at g0
   obtain ⟨a,e1,_⟩:=rv_int Tryz.underlying3 g1
   obtain ⟨b,e2,_⟩:=rv_int Tryz.underlying3 g2
   obtain ⟨c,e3,_⟩:=rv_int Tryz.underlying3 g3
   obtain ⟨d,e4,_⟩:=rv_int Tryz.underlying3 g4
   obtain ⟨e,e5,_⟩:=rv_int Tryz.underlying3 g5
   simp at e1 e2 e3 e4 e5
   subst e1 e2 e3 e4 e5
   exact ⟨v0,v1,a,b,c,d,e,rfl,g0⟩
theorem lawSamplePixels (cs0 cs1 cs2:Array Value) (w:World) (h0:Rv Tryz.prog w 24 cs0.toList) (h1:Rv Tryz.prog w 29 cs1.toList) (h2:Rv Tryz.prog w 34 cs2.toList) :
 Calls Tryz.prog 3 #[.agg cs0,.agg cs1,.agg cs2] w fun e w'=>e=.returned (.bool true)∧Below w.heap.size w w':=by
 obtain ⟨m,⟨A,cp,e0,hcp,hr⟩,hok⟩:=open_im h0
 obtain ⟨kk,nn,mo,c0,c1,c2,c3,e1,i0,i1,i2,i3⟩:=open_how34 h1
 obtain ⟨u0,u1,W,H,x,y,lv0,e2,hx⟩:=open_pix33 h2
 obtain ⟨kx,Ax,nx,cx,l,e3,_,hl,hn,hcm,hokx,hrx⟩:=open_xform hx
 injection e3 with e3 e4
 injection e4 with e4 _
 subst e3 e4
 have f0:cs0=#[.int .i64 m.W,.int .i64 m.H,.int .i64 m.C,.slice A m.px.length cp]:=by rw [← Array.toArray_toList (xs:=cs0),e0]
 have f1:cs1=howV kk nn mo c0 c1 c2 c3:=by rw [← Array.toArray_toList (xs:=cs1),e1]
 have f2:cs2=p7V kx Ax nx cx W H x y lv0:=by rw [← Array.toArray_toList (xs:=cs2),e2]
 subst f0 f1 f2
 have hn63:nx≤9223372036854775807:=by simp [maxLen] at hcm;omega
 refine pix_walk m A cp kk nn mo c0 c1 c2 c3 kx Ax nx cx W H x y lv0 (xC kx l W H) (xF kx l) (xG kx l) (xE kx l) w hr.rd hcp (fun j=>?_) hok.2.2.2.2 i0 i1 i2 i3
  (newMp_any kx l Ax nx cx W H w hl hn hcm hrx)
  (fun w' hb=>rcheck24 kx l Ax nx cx W H w' hl hn63 (hrx.below hb) hb.size hokx)
  (fun hz a b d w' hb=>rat24 kx l Ax nx cx W H a b d w' hl (hrx.below hb) hb.size hz)
  (fun hz=>?_)
 ·rw [List.getD_eq_getElem?_getD]
  rcases Nat.lt_or_ge j m.px.length with hj|hj
  ·rw [List.getElem?_eq_getElem hj]
   exact hok.2.2.2.1 _ (List.getElem_mem hj)
  ·rw [List.getElem?_eq_none hj]
   simp
 ·obtain ⟨hW,hH⟩:=szH_iff.1 (xC_zero hz).2.1
  refine ⟨⟨hW.2,hH.2⟩,fun a b d d1 d2 a0 a1 b0 b1=>?_⟩
  have hm:∀ z V:Int,V≤32768→1≤V→z≤(2*V-1)*d→z≤1048560:=fun z V h1 h2 h3=>by
   have:(2*V-1)*d≤(2*V-1)*16:=Int.mul_le_mul_of_nonneg_left d2 (by omega)
   omega
  have hp:rightH a b d=true:=rightH_iff.2 ⟨⟨by omega,by have:=hm _ W hW.2 hW.1 a1;omega⟩,⟨by omega,by have:=hm _ H hH.2 hH.1 b1;omega⟩,d1,d2⟩
  exact in_plain hz hp a0 a1 b0 b1
end Go.Proofs.YtjbelhpgbcnlmaaGreat
end
