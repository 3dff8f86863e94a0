/- Several texts in one: Several texts in one: What xform.New answers of each kind. Codes and answers of any kind of map. What xform.New answers of any kind, and its map. The reference's mesh: what is wrong with its numbers. -/
import Derived.Test.YtjbelhpgbcnlmaaGreatSamplePixelsZz26
import Derived.Test.YtjbelhpgbcnlmaaGreatSamplePixelsZz27
import Derived.Test.YtjbelhpgbcnlmaaGreatSamplePixelsZz31
import Derived.Test.YtjbelhpgbcnlmaaGreatSamplePixelsZz30
section
section
set_option linter.unusedVariables false
namespace Go.Proofs.YtjbelhpgbcnlmaaGreat
open Go.RowKit
theorem pk_hom (l:List Int) (A:Option Addr) (n cp:Nat) (W H:Int) (w:World) (hl:l.length=n) (hcp:n≤cp) (hr:Rd w w.heap.size A (l.map (Value.int .i64))) :
 ∀ w',Below w.heap.size w w'→Calls Tryz.prog 165 #[.slice A n cp,.int .i64 W,.int .i64 H] w' fun e w''=>∃ p,e=.returned (.tuple #[.pointer p,.int .i64 (newC l W H)])∧PkR 166 (newC l W H) (atX (adK (cf l) 9)) (atY (adK (cf l) 9)) (atE (adK (cf l) 9)) w' w'' p∧Below w'.heap.size w' w'':=by
 intro w' hb
 refine (new_any l A n cp W H w' hl ((hr.below hb).more hb.size) (Nat.le_refl _) hcp).mono ?_
 rintro e w'' ⟨p,rfl,hR,hb2⟩
 refine ⟨p,rfl,fun hz=>?_,hb2⟩
 obtain ⟨g,rfl,hg,hG⟩:=hR.2 hz
 refine ⟨g,rfl,hg,fun w3 hs3 hk x y d=>?_⟩
 exact hat_any _ g x y d w3 (hG.same (hk g hg hG.lt)) (adOk (newC_zero.1 hz).ok)
def lnF (l:List Int) (px py d:Int):Int:=if leIs l px py d=true then leU l px py d else 0
def lnG (l:List Int) (px py d:Int):Int:=if leIs l px py d=true then leV l px py d else 0
def lnE (l:List Int) (px py d:Int):Int:=if leIs l px py d=true then 0 else 11
theorem leAns_eq (l:List Int) (px py d:Int):leAns l px py d=.tuple #[.int .i64 (lnF l px py d),.int .i64 (lnG l px py d),.int .i64 (lnE l px py d)]:=by
 unfold leAns lnF lnG lnE
 by_cases h:leIs l px py d=true
 ·simp [h]
 ·simp [h]
theorem pk_lens (l:List Int) (A:Option Addr) (n cp:Nat) (W H:Int) (w:World) (hl:l.length=n) (hcp:n≤cp) (hr:Rd w w.heap.size A (l.map (Value.int .i64))) :
 ∀ w',Below w.heap.size w w'→Calls Tryz.prog 167 #[.slice A n cp,.int .i64 W,.int .i64 H] w' fun e w''=>∃ p,e=.returned (.tuple #[.pointer p,.int .i64 (leC l W H)])∧PkR 168 (leC l W H) (lnF l) (lnG l) (lnE l) w' w'' p∧Below w'.heap.size w' w'':=by
 intro w' hb
 refine (lnew_any l A n cp W H w' hl hcp ((hr.below hb).more hb.size) (Nat.le_refl _)).mono ?_
 rintro e w'' ⟨p,rfl,hR,hb2⟩
 refine ⟨p,rfl,fun hz=>?_,hb2⟩
 obtain ⟨g,rfl,hg,hG⟩:=hR.2 hz
 refine ⟨g,rfl,hg,fun w3 hs3 hk x y d=>?_⟩
 have h:=leC_zero.1 hz
 have:=lat_any l g x y d w3 (hG.same (hk g hg hG.lt)) (rgL_bd h.rg) h.len
 rwa [leAns_eq] at this
theorem pk_mesh (l:List Int) (A:Option Addr) (n cp:Nat) (W H:Int) (w:World) (hl:l.length=n) (hcp:n≤cp) (hcm:cp≤maxLen) (hr:Rd w w.heap.size A (l.map (Value.int .i64))) :
 ∀ w',Below w.heap.size w w'→Calls Tryz.prog 169 #[.slice A n cp,.int .i64 W,.int .i64 H] w' fun e w''=>∃ p,e=.returned (.tuple #[.pointer p,.int .i64 (meC l W H)])∧PkR 170 (meC l W H) (meU l) (meVv l) meE w' w'' p∧Below w'.heap.size w' w'':=by
 intro w' hb
 have hr':Rd w' w'.heap.size A (l.map (Value.int .i64)):=(hr.below hb).more hb.size
 have hn:n≤9223372036854775807:=by simp [maxLen] at hcm;omega
 by_cases hz:meC l W H=0
 ·refine (mnew_ok l A n cp W H w' hl hcp hcm (by obtain ⟨q1,q2,_⟩:=ln_K (meC_F hz) (meC_zero.1 hz).2.2.1;omega) hr' (Nat.le_refl _) hz).mono ?_
  rintro e w'' ⟨g,b,o,c,rfl,hg,hbb,hM,hb2⟩
  refine ⟨some ⟨g,0,none⟩,by rw [hz],fun _=>⟨g,rfl,hg,fun w3 hs3 hk x y d=>?_⟩,hb2⟩
  exact me_at l g b o c x y d w3 (meC_F hz) (hM.same (hk g hg hM.map.lt) (hk b hbb hM.lt) hs3)
 ·refine (mnew_err l A n cp W H w' hl hcp hn hr' (Nat.le_refl _) hz).mono ?_
  rintro e w'' ⟨rfl,hb2⟩
  exact ⟨none,rfl,fun h=>absurd h hz,hb2⟩
def shF (l:List Int) (px py d:Int):Int:=if rightH px py d=true then shU l px py d else 0
def shG (l:List Int) (px py d:Int):Int:=if rightH px py d=true then shV l px py d else 0
theorem shAns_eq (l:List Int) (px py d:Int):shAns l px py d=.tuple #[.int .i64 (shF l px py d),.int .i64 (shG l px py d),.int .i64 (afE px py d)]:=by
 unfold shAns shF shG afE
 by_cases h:rightH px py d=true
 ·simp [h]
 ·simp [h]
theorem pk_shear (l:List Int) (A:Option Addr) (n cp:Nat) (w:World) (hl:l.length=n) (hr:Rd w w.heap.size A (l.map (Value.int .i64))) :
 ∀ w',Below w.heap.size w w'→Calls Tryz.prog 171 #[.slice A n cp] w' fun e w''=>∃ p,e=.returned (.tuple #[.pointer p,.int .i64 (shC l)])∧PkR 172 (shC l) (shF l) (shG l) afE w' w'' p∧Below w'.heap.size w' w'':=by
 intro w' hb
 refine (snew_any l A n cp w' hl ((hr.below hb).more hb.size) (Nat.le_refl _)).mono ?_
 rintro e w'' ⟨p,rfl,hR,hb2⟩
 refine ⟨p,rfl,fun hz=>?_,hb2⟩
 obtain ⟨g,rfl,hg,hG⟩:=hR.2 hz
 refine ⟨g,rfl,hg,fun w3 hs3 hk x y d=>?_⟩
 have:=sat_any l g x y d w3 (hG.same (hk g hg hG.lt)) (shC_zero.1 hz).2
 rwa [shAns_eq] at this
def tuF (l:List Int) (px py d:Int):Int:=if rightH px py d=true then 65536*tuPx l px py d/d else 0
def tuG (l:List Int) (px py d:Int):Int:=if rightH px py d=true then 65536*tuPy l px py d/d else 0
theorem tuAns_eq (l:List Int) (px py d:Int):tuAns l px py d=.tuple #[.int .i64 (tuF l px py d),.int .i64 (tuG l px py d),.int .i64 (afE px py d)]:=by
 unfold tuAns tuF tuG afE
 by_cases h:rightH px py d=true
 ·simp [h]
 ·simp [h]
theorem pk_turn (l:List Int) (A:Option Addr) (n cp:Nat) (w:World) (hl:l.length=n) (hr:Rd w w.heap.size A (l.map (Value.int .i64))) :
 ∀ w',Below w.heap.size w w'→Calls Tryz.prog 173 #[.slice A n cp] w' fun e w''=>∃ p,e=.returned (.tuple #[.pointer p,.int .i64 (tuC l)])∧PkR 174 (tuC l) (tuF l) (tuG l) afE w' w'' p∧Below w'.heap.size w' w'':=by
 intro w' hb
 refine (tnew_any l A n cp w' hl ((hr.below hb).more hb.size) (Nat.le_refl _)).mono ?_
 rintro e w'' ⟨p,rfl,hR,hb2⟩
 refine ⟨p,rfl,fun hz=>?_,hb2⟩
 obtain ⟨g,rfl,hg,hG⟩:=hR.2 hz
 refine ⟨g,rfl,hg,fun w3 hs3 hk x y d=>?_⟩
 have:=tat_any l g x y d w3 (hG.same (hk g hg hG.lt)) (tuC_zero.1 hz)
 rwa [tuAns_eq] at this
end Go.Proofs.YtjbelhpgbcnlmaaGreat
end
section
set_option linter.unusedVariables false
namespace Go.Proofs.YtjbelhpgbcnlmaaGreat
open Go.RowKit
def xkC (k:Int) (l:List Int) (W H:Int):Int:=if k=1 then afC l else if k=2 then newC l W H else if k=3 then leC l W H else if k=4 then meC l W H else if k=5 then shC l else tuC l
def xC (k:Int) (l:List Int) (W H:Int):Int:=if ¬(1≤k∧k≤6) then 10 else if szH W H=false then 30 else xkC k l W H
def xF (k:Int) (l:List Int):Int→Int→Int→Int:=if k=1 then afX l else if k=2 then atX (adK (cf l) 9) else if k=3 then lnF l else if k=4 then meU l else if k=5 then shF l else tuF l
def xG (k:Int) (l:List Int):Int→Int→Int→Int:=if k=1 then afY l else if k=2 then atY (adK (cf l) 9) else if k=3 then lnG l else if k=4 then meVv l else if k=5 then shG l else tuG l
def xE (k:Int) (l:List Int):Int→Int→Int→Int:=if k=1 then afE else if k=2 then atE (adK (cf l) 9) else if k=3 then lnE l else if k=4 then meE else afE
end Go.Proofs.YtjbelhpgbcnlmaaGreat
end
section
set_option linter.unusedVariables false
namespace Go.Proofs.YtjbelhpgbcnlmaaGreat
open Go.RowKit
theorem newMp_any (k:Int) (l:List Int) (A:Option Addr) (n cp:Nat) (W H:Int) (w:World) (hl:l.length=n) (hcp:n≤cp) (hcm:cp≤maxLen) (hr:Rd w w.heap.size A (l.map (Value.int .i64))) :
 NewMp k A n cp W H w (xC k l W H) (xF k l) (xG k l) (xE k l):=by
 by_cases hk:1≤k∧k≤6
 ·cases hs:szH W H
  ·have hC:xC k l W H=30:=by unfold xC;rw [if_neg (by simpa using hk),if_pos hs]
   intro w' hb
   refine (xnew_size k A n cp W H w' hk hs).mono ?_
   rintro e w'' ⟨rfl,hb2⟩
   exact ⟨none,by rw [hC],fun _=>rfl,fun h=>absurd (hC.symm.trans h) (by decide),hb2⟩
  ·have hC:xC k l W H=xkC k l W H:=by unfold xC;rw [if_neg (by simpa using hk),if_neg (by rw [hs];simp)]
   rw [hC]
   rcases (show k=1∨k=2∨k=3∨k=4∨k=5∨k=6 by omega) with rfl|rfl|rfl|rfl|rfl|rfl
   ·exact newMp_aff l A n cp W H w hl hr hs
   ·exact newMp_homog A n cp W H _ _ _ _ w hs (pk_hom l A n cp W H w hl hcp hr)
   ·exact newMp_lens A n cp W H _ _ _ _ w hs (pk_lens l A n cp W H w hl hcp hr)
   ·exact newMp_mesh A n cp W H _ _ _ _ w hs (pk_mesh l A n cp W H w hl hcp hcm hr)
   ·exact newMp_shear A n cp W H _ _ _ _ w hs (pk_shear l A n cp w hl hr)
   ·exact newMp_turn A n cp W H _ _ _ _ w hs (pk_turn l A n cp w hl hr)
 ·have hC:xC k l W H=10:=by unfold xC;rw [if_pos hk]
  intro w' hb
  refine (xnew_kind k A n cp W H w' hk).mono ?_
  rintro e w'' ⟨rfl,hb2⟩
  exact ⟨none,by rw [hC],fun _=>rfl,fun h=>absurd (hC.symm.trans h) (by decide),hb2⟩
theorem newIs_any (k:Int) (l:List Int) (A:Option Addr) (n cp:Nat) (W H:Int) (w:World) (hl:l.length=n) (hcp:n≤cp) (hcm:cp≤maxLen) (hr:Rd w w.heap.size A (l.map (Value.int .i64))) :
 NewIs k A n cp W H w (xC k l W H) (xF k l) (xG k l) (xE k l):=(newMp_any k l A n cp W H w hl hcp hcm hr).is
end Go.Proofs.YtjbelhpgbcnlmaaGreat
end
end
section
set_option linter.unusedVariables false
namespace Go.Proofs.YtjbelhpgbcnlmaaGreat
open Go.RowKit
attribute [local go_sem high] run_maxM run_minM
theorem mfar_all {l:List Int} {n:Nat} (hl:l.length=n):(l.drop 4).any meFar=false ↔ ∀ i,4≤i→i<n→inH (cf l i) 2147483648=true:=by
 rw [List.any_eq_false]
 constructor
 ·intro h i h4 hi
  have hm:l[i]'(by omega)∈l.drop 4:=List.mem_iff_getElem.2 ⟨i-4,by simp;omega,by simp [show 4+(i-4)=i by omega]⟩
  have:=h _ hm
  unfold cf
  rw [List.getD_eq_getElem?_getD,List.getElem?_eq_getElem (by omega)]
  simpa [meFar] using this
 ·intro h x hx
  rw [List.mem_iff_getElem] at hx
  obtain ⟨k,hk,rfl⟩:=hx
  rw [List.length_drop] at hk
  rw [List.getElem_drop]
  have:=h (4+k) (by omega) (by omega)
  simp [cf,List.getD_eq_getElem?_getD,List.getElem?_eq_getElem (show 4+k<l.length by omega)] at this
  simp [meFar,this]
set_option maxRecDepth 100000 in
set_option maxHeartbeats 16000000 in
theorem rcheck21 (l:List Int) (A:Option Addr) (n cp:Nat) (W H:Int) (w:World) {B:Nat} (hl:l.length=n) (hn:n≤9223372036854775807) (hr:Rd w B A (l.map (Value.int .i64))) (hB:B≤w.heap.size) :
 Calls Tryz.prog 53 #[.slice A n cp,.int .i64 W,.int .i64 H] w fun e w'=>e=.returned (.int .i64 (meC l W H))∧Below w.heap.size w w':=by
 have hb0:=Below.refl w.heap.size w
 by_cases h4:(n:Int)<4
 ·have HE:Hid (meC l W H=12):=by unfold meC Hid;rw [if_pos (by omega)]
  clear hr hl
  go_enter Tryz.func53,Tryz.ntmps53
  go_wp2_with fail
  go_returns
  exact ⟨ret_int HE.out.symm,hb0⟩
 obtain ⟨b,o,rfl,hb,hc⟩:=lget4 (by omega) hr
 rw [hl] at hc
 have hbw:b<w.heap.size:=by omega
 have HE0:Hid (meC l W H=if meFit (cf l 0) (cf l 1) (cf l 2) (cf l 3)=false then 11 else if (l.length:Int)≠meLn l then 12 else if (l.drop 4).any meFar=true then 11 else if szH W H=false then 30 else if cf l 0*cf l 2<W∨cf l 1*cf l 3<H then 42 else 0):=by
  unfold meC Hid;rw [if_neg (by omega)]
 have hHL:=Lib.hid hl
 have hHc:=Lib.hid hc
 have d0:=hc 0 (by omega)
 have d1:=hc 1 (by omega)
 have d2:=hc 2 (by omega)
 have d3:=hc 3 (by omega)
 rw [Nat.add_zero] at d0
 have l0:(0:Int)<(n:Int):=by omega
 have l1:(1:Int)<(n:Int):=by omega
 have l2:(2:Int)<(n:Int):=by omega
 have l3:(3:Int)<(n:Int):=by omega
 have hFt:=fun w'=>(rmfits_any (cf l 0) (cf l 1) (cf l 2) (cf l 3) w').mono (R':=fun e w''=>e=.returned (.bool (meFit (cf l 0) (cf l 1) (cf l 2) (cf l 3)))∧w''=w') fun e w'' ⟨q1,q2⟩=>⟨q1,q2.symm⟩
 clear hr hl hc
 go_enter Tryz.func53,Tryz.ntmps53
 go_upto_region 3 with fail
 go_quiet ((go_at_call 110;with_reducible exact Calls.quiet_of_same (hFt _)))
 replace hb0:=below_drewN hb0 nq
 generalize w.drewN nq=w4 at *
 cases hft:meFit (cf l 0) (cf l 1) (cf l 2) (cf l 3)
 ·have HE:Hid (meC l W H=11):=by have:=HE0.out;rw [if_pos hft] at this;exact this
  go_wp2_with fail
  go_returns
  exact ⟨ret_int HE.out.symm,hb0⟩
 obtain ⟨⟨a0,a1⟩,⟨a2,a3⟩,⟨a4,a5⟩,a6,a7⟩:=meFit_iff.1 hft
 have HE1:Hid (meC l W H=if (l.length:Int)≠meLn l then 12 else if (l.drop 4).any meFar=true then 11 else if szH W H=false then 30 else if cf l 0*cf l 2<W∨cf l 1*cf l 3<H then 42 else 0):=by
  have:=HE0.out;rw [if_neg (by rw [hft];decide)] at this;exact this
 clear HE0
 have m1:1*1≤cf l 0*cf l 2:=Int.mul_le_mul a0 a4 (by omega) (by omega)
 have m2:cf l 0*cf l 2≤1024*64:=Int.mul_le_mul a1 a5 (by omega) (by omega)
 have m3:1*1≤cf l 1*cf l 3:=Int.mul_le_mul a2 a6 (by omega) (by omega)
 have m4:cf l 1*cf l 3≤1024*64:=Int.mul_le_mul a3 a7 (by omega) (by omega)
 have m5:4*2≤2*(cf l 2+1)*(cf l 3+1):=Int.mul_le_mul (by omega) (by omega) (by omega) (by omega)
 have m6:2*(cf l 2+1)*(cf l 3+1)≤130*65:=Int.mul_le_mul (by omega) (by omega) (by omega) (by omega)
 have k1:IntKind.i64.wrap (cf l 2+1)=cf l 2+1:=IntWalk.i64_in _ ⟨by omega,by omega⟩
 have k2:IntKind.i64.wrap (2*(cf l 2+1))=2*(cf l 2+1):=IntWalk.i64_in _ ⟨by omega,by omega⟩
 have k3:IntKind.i64.wrap (cf l 3+1)=cf l 3+1:=IntWalk.i64_in _ ⟨by omega,by omega⟩
 have k4:IntKind.i64.wrap (2*(cf l 2+1)*(cf l 3+1))=2*(cf l 2+1)*(cf l 3+1):=IntWalk.i64_in _ ⟨by omega,by omega⟩
 obtain ⟨LN,hLN⟩:∃ z,meLn l=z:=⟨_,rfl⟩
 have k5:IntKind.i64.wrap (4+2*(cf l 2+1)*(cf l 3+1))=LN:=by rw [← hLN];exact IntWalk.i64_in _ ⟨by omega,by omega⟩
 have HLN:=Lib.hid hLN
 have l13:LN≤8454:=by rw [← hLN];unfold meLn;omega
 have k6:IntKind.i64.wrap (cf l 0*cf l 2)=cf l 0*cf l 2:=IntWalk.i64_in _ ⟨by omega,by omega⟩
 have k7:IntKind.i64.wrap (cf l 1*cf l 3)=cf l 1*cf l 3:=IntWalk.i64_in _ ⟨by omega,by omega⟩
 replace d2:=(hb0.cell (p:=⟨b,o+2,none⟩) hbw).trans d2
 replace d3:=(hb0.cell (p:=⟨b,o+3,none⟩) hbw).trans d3
 clear hLN a0 a1 a2 a3 a4 a5 a6 a7 m5 m6 hft hFt
 go_upto_region 5 with fail
 go_quiet (fail)
 replace hb0:=below_drewN hb0 nq
 generalize w4.drewN nq=w5 at *
 clear k1 k2 k3 k4 k5 d0 d1 d2 d3
 by_cases hLn:¬(n:Int)=LN
 ·have HE2:Hid (meC l W H=12):=by have:=HE1.out;rw [if_pos (by rw [hHL.out,HLN.out];exact hLn)] at this;exact this
  have hbn:((n:Int) != LN)=true:=by simp [hLn]
  clear HE1 hLn
  go_wp2_with fail
  go_returns
  exact ⟨ret_int HE2.out.symm,hb0⟩
 replace hLn:(n:Int)=LN:=by omega
 have HE2:Hid (meC l W H=if (l.drop 4).any meFar=true then 11 else if szH W H=false then 30 else if cf l 0*cf l 2<W∨cf l 1*cf l 3<H then 42 else 0):=by
  have:=HE1.out;rw [if_neg (by rw [hHL.out,HLN.out,hLn];simp)] at this;exact this
 clear HE1
 have hbn:((n:Int) != LN)=false:=by simp [hLn]
 have hn8:n≤8454:=by omega
 clear hLn
 go_wp2_with fail
 go_loop [7] (fun kv=>∃ k:Nat,4≤k∧k≤n∧kv=.int .i64 k∧Hid (∀ i,4≤i→i<k→inH (cf l i) 2147483648=true)) (fun kv=>n-(intOf kv).toNat)
 case atStart=>exact ⟨4,by omega,by omega,rfl,by intro i h1 h2;omega⟩
 case round =>
  obtain ⟨k,hk4,hk,rfl,hall⟩:=hrel
  by_cases hlt:k<n
  ·have ck:=(hb0.cell (p:=⟨b,o+k,none⟩) hbw).trans (hHc.out k hlt)
   have hlt':(k:Int)<(n:Int):=by omega
   have hk0:(0:Int)≤(k:Int):=by omega
   have hw1:IntKind.i64.wrap ((k:Int)+1)=((k+1:Nat):Int):=by rw [IntWalk.i64_in _ ⟨by omega,by omega⟩];omega
   cases hi:inH (cf l k) 2147483648
   ·have hfr:(l.drop 4).any meFar=true:=by
     cases h:(l.drop 4).any meFar
     ·have:=(mfar_all hHL.out).1 h k hk4 hlt
      rw [hi] at this;cases this
     ·rfl
    have HE3:Hid (meC l W H=11):=by have:=HE2.out;rw [if_pos hfr] at this;exact this
    clear HE2 hall hfr hw1
    generalize cf l k=x at *
    go_wp2_with (go_at_call 102;(with_reducible refine (rin_any _ _ _ (by decide) (by decide)).mono ?_);rintro e w' ⟨rfl,rfl⟩;rw [hi])
    go_returns
    exact ⟨ret_int HE3.out.symm,hb0⟩
   ·have HN:Hid (∀ i,4≤i→i<k+1→inH (cf l i) 2147483648=true):=by
     intro i h3 h4
     by_cases e:i=k
     ·rw [e];exact hi
     ·exact hall.out i h3 (by omega)
    clear hall
    generalize cf l k=x at *
    go_wp2_with (go_at_call 102;(with_reducible refine (rin_any _ _ _ (by decide) (by decide)).mono ?_);rintro e w' ⟨rfl,rfl⟩;rw [hi])
    exact ⟨⟨k+1,by omega,by omega,by first | rfl|go_num,HN⟩,by simp [intOf];omega⟩
  obtain rfl:k=n:=by omega
  have hfr:=(mfar_all hHL.out).2 hall.out
  have HE3:Hid (meC l W H=if szH W H=false then 30 else if cf l 0*cf l 2<W∨cf l 1*cf l 3<H then 42 else 0):=by
   have:=HE2.out;rw [if_neg (by rw [hfr];simp)] at this;exact this
  have d0:=(hb0.cell (p:=⟨b,o+0,none⟩) hbw).trans (hHc.out 0 (by omega))
  have d1:=(hb0.cell (p:=⟨b,o+1,none⟩) hbw).trans (hHc.out 1 (by omega))
  have d2:=(hb0.cell (p:=⟨b,o+2,none⟩) hbw).trans (hHc.out 2 (by omega))
  have d3:=(hb0.cell (p:=⟨b,o+3,none⟩) hbw).trans (hHc.out 3 (by omega))
  rw [Nat.add_zero] at d0
  clear HE2 hfr hall hlt
  rcases sz_cases W H with ⟨hs,s0,s1,s2,s3⟩|⟨hs,hc⟩
  ·have HE4:Hid (meC l W H=if cf l 0*cf l 2<W∨cf l 1*cf l 3<H then 42 else 0):=by
    have:=HE3.out;rw [if_neg (by rw [hs];simp)] at this;exact this
   clear HE3 hs
   by_cases hw1:cf l 0*cf l 2<W
   ·have HE5:Hid (meC l W H=42):=by have:=HE4.out;rw [if_pos (.inl hw1)] at this;exact this
    have g1:decide (cf l 0*cf l 2<W)=true:=decide_eq_true hw1
    clear HE4
    go_wp2_with fail
    go_quiet (fail)
    go_wp2_with fail
    go_returns
    exact ⟨ret_int HE5.out.symm,below_drewN hb0 _⟩
   ·have g1:decide (cf l 0*cf l 2<W)=false:=decide_eq_false hw1
    by_cases hw2:cf l 1*cf l 3<H
    ·have HE5:Hid (meC l W H=42):=by have:=HE4.out;rw [if_pos (.inr hw2)] at this;exact this
     have g2:decide (cf l 1*cf l 3<H)=true:=decide_eq_true hw2
     clear HE4
     go_wp2_with fail
     go_quiet (fail)
     go_wp2_with fail
     go_returns
     exact ⟨ret_int HE5.out.symm,below_drewN hb0 _⟩
    ·have HE5:Hid (meC l W H=0):=by have:=HE4.out;rw [if_neg (by omega)] at this;exact this
     have g2:decide (cf l 1*cf l 3<H)=false:=decide_eq_false hw2
     clear HE4
     go_wp2_with fail
     go_quiet (fail)
     go_wp2_with fail
     go_returns
     exact ⟨ret_int HE5.out.symm,below_drewN hb0 _⟩
  ·have HE4:Hid (meC l W H=30):=by have:=HE3.out;rw [if_pos hs] at this;exact this
   clear HE3 hs
   rcases hc with q0|⟨q0,q1⟩|⟨q0,q1,q2⟩|⟨q0,q1,q2,q3⟩
   all_goals
    go_wp2_with fail
    go_returns
    exact ⟨ret_int HE4.out.symm,hb0⟩
end Go.Proofs.YtjbelhpgbcnlmaaGreat
end
