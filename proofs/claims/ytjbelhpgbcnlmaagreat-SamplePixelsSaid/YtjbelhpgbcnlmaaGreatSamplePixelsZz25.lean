/- Several texts in one: The reference's code of images; places; few; alive. SampleSources: bytes alike, few, the chapter's example. Several texts in one: SampleAt: the parameters opened; Right; both sides by any kernel. SampleAt: the law walked. level.Of, and the law LevelReaches: the walk. SamplePixels: both sides' pixel, any kernel. A transform among a row's arguments, opened. -/
import Derived.Test.YtjbelhpgbcnlmaaGreatSamplePixelsZz4
import Derived.Laws.BytesArg
import Derived.Test.YtjbelhpgbcnlmaaGreatSamplePixelsZz24
import Derived.Test.YtjbelhpgbcnlmaaGreatSamplePixelsZz22
import Derived.Test.YtjbelhpgbcnlmaaGreatSamplePixelsZz17
import Derived.Test.YtjbelhpgbcnlmaaGreatSamplePixelsZz16
import Derived.Test.YtjbelhpgbcnlmaaGreatSamplePixelsZz7
import Derived.Test.YtjbelhpgbcnlmaaGreatSamplePixelsZz13
import Derived.Deep.DeepCutAuto
import Derived.Test.YtjbelhpgbcnlmaaGreatSamplePixelsZz23
import Derived.Test.YtjbelhpgbcnlmaaGreatSamplePixelsZz21
import Derived.Test.YtjbelhpgbcnlmaaGreatSamplePixelsZz18
section
set_option linter.unusedVariables false
namespace Go.Proofs.YtjbelhpgbcnlmaaGreat
open Go.RowKit
set_option maxRecDepth 100000 in
set_option maxHeartbeats 4000000 in
theorem rplace_in (m:Im) (A:Option Addr) (cp:Nat) (x y:Int) (w:World) (h:checkC m.W m.H m.C m.px.length=0) (hx:0≤x∧x<m.W) (hy:0≤y∧y<m.H) :
 Calls Tryz.prog 32 #[.agg #[.int .i64 m.W,.int .i64 m.H,.int .i64 m.C,.slice A m.px.length cp],.int .i64 x,.int .i64 y,.int .i64 0] w fun e w'=>e=.returned (.int .i64 ((y*m.W+x)*m.C))∧Below w.heap.size w w':=by
 obtain ⟨W,H,C,px⟩:=m
 simp only at *
 obtain ⟨hf,hl⟩:=ck_parts h
 obtain ⟨hc,hw1,hw2,hh1,hh2,hp⟩:=fitsC_ok hf
 obtain ⟨⟨a1,a2⟩,⟨a3,a4⟩,⟨a5,a6⟩,a7⟩:=at_bd (C:=C) (by omega) ⟨hw1,hw2⟩ ⟨hh1,hh2⟩ hx hy
 have v1:wrap64 (y*W)=y*W:=IntWalk.wrap64_in _ ⟨by omega,by omega⟩
 have v2:wrap64 (y*W+x)=y*W+x:=IntWalk.wrap64_in _ ⟨by omega,by omega⟩
 have v3:wrap64 ((y*W+x)*C)=(y*W+x)*C:=IntWalk.wrap64_in _ ⟨by omega,by omega⟩
 have hC1:0<C:=by omega
 have HH:=Lib.hid h
 obtain ⟨hx1,hx2⟩:=hx
 obtain ⟨hy1,hy2⟩:=hy
 clear h a1 a2 a3 a4 a5 a6 a7 hp hc hf hl
 generalize px.length=n at *
 have hC:∀ w,Calls Tryz.prog 27 #[.agg #[.int .i64 W,.int .i64 H,.int .i64 C,.slice A n cp]] w fun e w'=>e=.returned (.int .i64 0)∧Below w.heap.size w w':=fun w=>rcheck_ok _ _ _ _ _ _ _ HH.out
 go_enter Tryz.func32,Tryz.ntmps32
 go_wp2_with (go_at_call 27;(with_reducible refine (hC _).mono ?_);rintro e w1 ⟨rfl,hb⟩;have hb1:=((Below.refl w.heap.size w).alloc (Nat.le_refl _) (.cells #[.int .i64 W,.int .i64 H,.int .i64 C,.slice A n cp] 24)).trans (hb.mono (by simp));obtain ⟨d0,d1,d2,d3⟩:=((Bk.new w 24 #[.int .i64 W,.int .i64 H,.int .i64 C,.slice A n cp]).nx hb).cell4)
 go_returns
 exact ⟨ret_int (by first | rfl|exact v3|simp [v3]),hb1⟩
set_option maxRecDepth 100000 in
set_option maxHeartbeats 4000000 in
theorem rplace_out (m:Im) (A:Option Addr) (cp:Nat) (x y:Int) (w:World) (h:checkC m.W m.H m.C m.px.length=0) (ho:x<0∨m.W≤x∨y<0∨m.H≤y) :
 Calls Tryz.prog 32 #[.agg #[.int .i64 m.W,.int .i64 m.H,.int .i64 m.C,.slice A m.px.length cp],.int .i64 x,.int .i64 y,.int .i64 0] w fun e w'=>e=.returned (.int .i64 (-1))∧Below w.heap.size w w':=by
 obtain ⟨W,H,C,px⟩:=m
 simp only at *
 have HH:=Lib.hid h
 clear h
 generalize px.length=n at *
 have hC:∀ w,Calls Tryz.prog 27 #[.agg #[.int .i64 W,.int .i64 H,.int .i64 C,.slice A n cp]] w fun e w'=>e=.returned (.int .i64 0)∧Below w.heap.size w w':=fun w=>rcheck_ok _ _ _ _ _ _ _ HH.out
 rcases (show x<0∨(0≤x∧W≤x)∨(0≤x∧x<W∧y<0)∨(0≤x∧x<W∧0≤y∧H≤y) by omega) with h1|⟨h1,h2⟩|⟨h1,h2,h3⟩|⟨h1,h2,h3,h4⟩
 all_goals
  clear ho
  go_enter Tryz.func32,Tryz.ntmps32
  go_wp2_with (go_at_call 27;(with_reducible refine (hC _).mono ?_);rintro e w1 ⟨rfl,hb⟩;have hb1:=((Below.refl w.heap.size w).alloc (Nat.le_refl _) (.cells #[.int .i64 W,.int .i64 H,.int .i64 C,.slice A n cp] 24)).trans (hb.mono (by simp));obtain ⟨d0,d1,d2,d3⟩:=((Bk.new w 24 #[.int .i64 W,.int .i64 H,.int .i64 C,.slice A n cp]).nx hb).cell4)
  go_returns
  exact ⟨rfl,hb1⟩
end Go.Proofs.YtjbelhpgbcnlmaaGreat
end
section
set_option linter.unusedVariables false
namespace Go.Proofs.YtjbelhpgbcnlmaaGreat
open Go.RowKit
theorem conv_bytes (l:List Int) (A:Option Addr) (n c:Nat) (w:World) {B:Nat} (hn:l.length=n) (hr:Rd w B A (l.map (Value.int .u8))):(convert 22 9 (.slice A n c)).run Tryz.prog w=.ok (.string (strOfNums l)) w:=by
 rcases Nat.eq_zero_or_pos n with h0|h0
 ·subst h0
  obtain rfl:l=[]:=List.eq_nil_of_length_eq_zero hn
  cases A with
  | none=>exact run_convert_bytes_nil w _ _ Tryz.underlying22 Tryz.underlying5 _ _ _ Tryz.underlying9
  | some a =>
    rw [run_convert_bytes_string w _ _ _ _ 0 c Tryz.underlying22 Tryz.underlying5 Tryz.underlying9]
    rw [run_bytesToString w _ 0 c [] (by simp [loadCells,loadCellsFrom])]
    rfl
 ·obtain ⟨b,o,rfl,_⟩:=hr.get 0 (by simp;omega)
  refine run_convert_bytes_arg w _ _ Tryz.underlying22 Tryz.underlying5 b o n c l hn (fun i hi=>?_) _ Tryz.underlying9
  obtain ⟨b',o',e,_,hc⟩:=hr.get i (by simp;omega)
  injection e with e;injection e with e1 e2
  subst e1;subst e2
  rw [hc]
  simp [List.getD,List.getElem?_eq_getElem (show i<l.length by omega)]
theorem same14 (l:List Int) (A A':Option Addr) (n c c':Nat) (w:World) {B B':Nat} (hn:l.length=n) (hr:Rd w B A (l.map (Value.int .u8))) (hr':Rd w B' A' (l.map (Value.int .u8))) :
 Calls Tryz.prog 18 #[.slice A n c,.slice A' n c'] w fun e w'=>e=.returned (.bool true)∧Below w.heap.size w w':=by
 have h1:=conv_bytes l A n c w hn hr
 have h2:=conv_bytes l A' n c' w hn hr'
 generalize strOfNums l=s at *
 clear hn hr hr'
 go_enter Tryz.func18,Tryz.ntmps18
 go_wp2_with fail
 go_returns
 exact ⟨ret_bool (by simp),by go_grown⟩
theorem fewi_any (m:Im) (A:Option Addr) (cp:Nat) (z:Int) (w:World):Calls Tryz.prog 9 #[.agg #[.int .i64 m.W,.int .i64 m.H,.int .i64 m.C,.slice A m.px.length cp],.int .i64 z] w fun e w'=>e=.returned (.bool (decide ((m.px.length:Int)≤z)))∧Below w.heap.size w w':=by
 go_enter Tryz.func9,Tryz.ntmps9
 go_wp2
 go_returns
 exact ⟨rfl,by go_grown⟩
def fewB (ims:List Im):Bool:=ims.all fun m=>decide ((m.px.length:Int)≤3000)
theorem few_snoc {ims:List Im} {k:Nat} (hk:k<ims.length):fewB (ims.drop k)=(decide ((ims[k].px.length:Int)≤3000)&&fewB (ims.drop (k+1))):=by
 rw [List.drop_eq_getElem_cons hk];rfl
theorem alive33 (w:World):Calls Tryz.prog 17 #[] w fun e w'=>e=.returned (.bool true)∧Below w.heap.size w w':=by
 have hN:Calls Tryz.prog 56 #[.int .i64 2] w fun e w'=>e=.returned (.string sCubic)∧Below w.heap.size w w':=name_any 2 w
 have hs:(sCubic.toList==[99,117,98,105,99])=true:=by decide +kernel
 go_enter Tryz.func17,Tryz.ntmps17
 go_wp2_with (go_at_call 56;(with_reducible refine hN.mono ?_);rintro e w2 ⟨rfl,hb2⟩)
 go_returns
 exact ⟨rfl,hb2⟩
end Go.Proofs.YtjbelhpgbcnlmaaGreat
end
section
section
set_option linter.unusedVariables false
namespace Go.Proofs.YtjbelhpgbcnlmaaGreat
open Go.RowKit
theorem co_int34:Tryz.prog.cellsOf 3=1:=by kernel_rfl
theorem co_i6434:Tryz.prog.cellsOf 2=1:=by kernel_rfl
theorem co_4b34:Tryz.prog.cellsOf 25=4:=by kernel_rfl
theorem co_4i34:Tryz.prog.cellsOf 211=4:=by kernel_rfl
theorem co_bord34:Tryz.prog.cellsOf 27=5:=by kernel_rfl
theorem co_how34:Tryz.prog.cellsOf 29=7:=by kernel_rfl
set_option maxRecDepth 100000 in
theorem open_4i {w:World} {cs:List Value} (h:Rv Tryz.prog w 211 cs):∃ a b c d:Int,cs=[.int .i64 a,.int .i64 b,.int .i64 c,.int .i64 d]∧(-9223372036854775808≤a∧a≤9223372036854775807)∧(-9223372036854775808≤b∧b≤9223372036854775807)∧(-9223372036854775808≤c∧c≤9223372036854775807)∧(-9223372036854775808≤d∧d≤9223372036854775807):=by
 obtain ⟨hl,hel⟩:=rv_array Tryz.underlying211 h
 rw [co_4i34] at hl
 match cs,hl with
 | [v0,v1,v2,v3],_ =>
   rw [co_i6434] at hel
   obtain ⟨a,e0,i0⟩:=rv_int Tryz.underlying2 (hel 0 (by omega))
   obtain ⟨b,e1,i1⟩:=rv_int Tryz.underlying2 (hel 1 (by omega))
   obtain ⟨c,e2,i2⟩:=rv_int Tryz.underlying2 (hel 2 (by omega))
   obtain ⟨d,e3,i3⟩:=rv_int Tryz.underlying2 (hel 3 (by omega))
   simp at e0 e1 e2 e3
   subst e0 e1 e2 e3
   exact ⟨a,b,c,d,rfl,wf_i64 i0,wf_i64 i1,wf_i64 i2,wf_i64 i3⟩
set_option maxRecDepth 100000 in
theorem open_4b34 {w:World} {cs:List Value} (h:Rv Tryz.prog w 25 cs):∃ a b c d:Int,cs=[.int .u8 a,.int .u8 b,.int .u8 c,.int .u8 d]∧(0≤a∧a≤255)∧(0≤b∧b≤255)∧(0≤c∧c≤255)∧(0≤d∧d≤255):=by
 obtain ⟨hl,hel⟩:=rv_array Tryz.underlying25 h
 rw [co_4b34] at hl
 match cs,hl with
 | [v0,v1,v2,v3],_ =>
   rw [co_u8] at hel
   obtain ⟨a,e0,i0⟩:=rv_int Tryz.underlying5 (hel 0 (by omega))
   obtain ⟨b,e1,i1⟩:=rv_int Tryz.underlying5 (hel 1 (by omega))
   obtain ⟨c,e2,i2⟩:=rv_int Tryz.underlying5 (hel 2 (by omega))
   obtain ⟨d,e3,i3⟩:=rv_int Tryz.underlying5 (hel 3 (by omega))
   simp at e0 e1 e2 e3
   subst e0 e1 e2 e3
   exact ⟨a,b,c,d,rfl,wf_u8 i0,wf_u8 i1,wf_u8 i2,wf_u8 i3⟩
set_option maxRecDepth 100000 in
theorem open_bord34 {w:World} {cs:List Value} (h:Rv Tryz.prog w 27 cs):∃ m a b c d:Int,cs=[.int .i64 m,.int .u8 a,.int .u8 b,.int .u8 c,.int .u8 d]∧(0≤a∧a≤255)∧(0≤b∧b≤255)∧(0≤c∧c≤255)∧(0≤d∧d≤255):=by
 obtain ⟨hl,hf⟩:=rv_struct Tryz.underlying27 h
 rw [co_bord34] at hl
 match cs,hl with
 | [v0,v1,v2,v3,v4],_ =>
   have g0:Rv Tryz.prog w 3 (([v0,v1,v2,v3,v4].drop 0).take (Tryz.prog.cellsOf 3)):=hf 0 _ rfl
   have g1:Rv Tryz.prog w 25 (([v0,v1,v2,v3,v4].drop 1).take (Tryz.prog.cellsOf 25)):=hf 1 _ rfl
   rw [co_int34] at g0
   rw [co_4b34] at g1
   obtain ⟨m,e0,_⟩:=rv_int Tryz.underlying3 g0
   obtain ⟨a,b,c,d,e1,hh⟩:=open_4b34 g1
   simp at e0 e1
   obtain ⟨e1,e2,e3,e4⟩:=e1
   subst e0 e1 e2 e3 e4
   exact ⟨m,a,b,c,d,rfl,hh⟩
abbrev howV (kk nn m c0 c1 c2 c3:Int):Array Value:=#[.int .i64 kk,.int .i64 nn,.int .i64 m,.int .u8 c0,.int .u8 c1,.int .u8 c2,.int .u8 c3]
set_option maxRecDepth 100000 in
theorem open_how34 {w:World} {cs:List Value} (h:Rv Tryz.prog w 29 cs):∃ k n m a b c d:Int,cs=[.int .i64 k,.int .i64 n,.int .i64 m,.int .u8 a,.int .u8 b,.int .u8 c,.int .u8 d]∧(0≤a∧a≤255)∧(0≤b∧b≤255)∧(0≤c∧c≤255)∧(0≤d∧d≤255):=by
 obtain ⟨hl,hf⟩:=rv_struct Tryz.underlying29 h
 rw [co_how34] at hl
 match cs,hl with
 | [v0,v1,v2,v3,v4,v5,v6],_ =>
   have g0:Rv Tryz.prog w 3 (([v0,v1,v2,v3,v4,v5,v6].drop 0).take (Tryz.prog.cellsOf 3)):=hf 0 _ rfl
   have g1:Rv Tryz.prog w 3 (([v0,v1,v2,v3,v4,v5,v6].drop 1).take (Tryz.prog.cellsOf 3)):=hf 1 _ rfl
   have g2:Rv Tryz.prog w 27 (([v0,v1,v2,v3,v4,v5,v6].drop 2).take (Tryz.prog.cellsOf 27)):=hf 2 _ rfl
   rw [co_int34] at g0 g1
   rw [co_bord34] at g2
   obtain ⟨k,e0,_⟩:=rv_int Tryz.underlying3 g0
   obtain ⟨n,e1,_⟩:=rv_int Tryz.underlying3 g1
   obtain ⟨m,a,b,c,d,e2,hh⟩:=open_bord34 g2
   simp at e0 e1 e2
   obtain ⟨f0,f1,f2,f3,f4⟩:=e2
   subst e0 e1 f0 f1 f2 f3 f4
   exact ⟨k,n,m,a,b,c,d,rfl,hh⟩
theorem rin18 (a:Int) (w:World):Calls Tryz.prog 102 #[.int .i64 a,.int .i64 70368744177664] w fun e w'=>e=.returned (.bool (inF a))∧Below w.heap.size w w':=by
 have HI:=Lib.hid (inF_eq a)
 by_cases h1:-70368744177664≤a
 all_goals
  go_enter Tryz.func102,Tryz.ntmps102
  go_wp2
  go_returns
  exact ⟨ret_bool (by rw [HI.out];simp [h1] <;> omega),by first | exact Below.refl _ _|go_grown⟩
theorem pxM_byte {m:Im} (h:∀ j,0≤m.px.getD j 0∧m.px.getD j 0≤255) {mo c0 c1 c2 c3:Int} (h0:0≤c0∧c0≤255) (h1:0≤c1∧c1≤255) (h2:0≤c2∧c2≤255) (h3:0≤c3∧c3≤255) (x y:Int) (kk:Nat) :
 0≤(pxM m mo c0 c1 c2 c3 x y).getD kk 0∧(pxM m mo c0 c1 c2 c3 x y).getD kk 0≤255:=by
 unfold pxM pxl
 split
 ·rw [List.getD_eq_getElem?_getD]
  by_cases hk:kk<m.C.toNat
  ·rw [List.getElem?_take_of_lt hk,List.getElem?_drop,← List.getD_eq_getElem?_getD]
   exact h _
  ·rw [List.getElem?_eq_none (by simp;omega)]
   simp
 ·rw [List.getD_eq_getElem?_getD]
  by_cases hk:kk<m.C.toNat
  ·rw [List.getElem?_take_of_lt hk]
   match kk with
   | 0=>simpa using h0
   | 1=>simpa using h1
   | 2=>simpa using h2
   | 3=>simpa using h3
   | n+4=>simp
  ·rw [List.getElem?_eq_none (by simp;omega)]
   simp
theorem kerL_len {kn:Int} {m:Im} {C:Nat} {mo c0 c1 c2 c3 u v:Int} (h:checkC m.W m.H m.C m.px.length=0) (hC:m.C=C):(kerL kn m C mo c0 c1 c2 c3 u v).length=C:=by
 obtain ⟨hf,hl⟩:=ck_parts h
 obtain ⟨hc,hw1,hw2,hh1,hh2,hp⟩:=fitsC_ok hf
 unfold kerL
 split
 ·have e:m.C.toNat=C:=by omega
  unfold pxM
  rw [e]
  exact pxl_len rfl (by rw [hC] at hl;exact hl) ⟨hw1,hw2⟩ ⟨hh1,hh2⟩ (by omega)
 ·split <;> simp
structure AtOk (ims:List Im) (w:World) (A:Option Addr) (n c lo:Nat) (mo c0 c1 c2 c3 u v:Int) (k C:Nat):Prop where
 hn:ims.length=n
 hA:ImsAt w lo A ims
 hk:k<ims.length
 hck:checkC ims[k].W ims[k].H ims[k].C ims[k].px.length=0
 hC:ims[k].C=C
 hC0:(im0 ims).C=C
 hby:∀ x y kk,0≤(pxM ims[k] mo c0 c1 c2 c3 x y).getD kk 0∧(pxM ims[k] mo c0 c1 c2 c3 x y).getD kk 0≤255
 hu:-70368744177664≤u∧u≤70368744177664
 hv:-70368744177664≤v∧v≤70368744177664
set_option maxHeartbeats 4000000 in
theorem rat33_any {ims:List Im} {A:Option Addr} {n c lo:Nat} {w:World} {mo c0 c1 c2 c3 u v:Int} {k C:Nat} (h:AtOk ims w A n c lo mo c0 c1 c2 c3 u v k C) (kn:Int) (hkn:0≤kn∧kn≤3) :
 Calls Tryz.prog 60 #[.slice A n c,.int .i64 kn,bdV mo c0 c1 c2 c3,.int .i64 k,.int .i64 u,.int .i64 v] w fun e w'=>∃ s,e=.returned s∧w'.ownsRow w.heap.size 5 1 s C ((kerL kn (ims[k]'h.hk) C mo c0 c1 c2 c3 (lvTo u k) (lvTo v k)).map (Value.int .u8))∧Below w.heap.size w w':=by
 rcases (show kn=0∨kn=2∨(kn=1∨kn=3) by omega) with h1|h1|h1
 ·unfold kerL
  rw [if_pos h1]
  exact rat33_near kn h1 h.hn h.hA mo c0 c1 c2 c3 u v k h.hk h.hck C h.hC h.hby h.hu h.hv
 ·unfold kerL
  rw [if_neg (by omega),if_pos h1]
  exact rat33_cubic kn h1 h.hn h.hA mo c0 c1 c2 c3 u v k h.hk h.hck C h.hC h.hby h.hu h.hv
 ·unfold kerL
  rw [if_neg (by omega),if_neg (by omega)]
  exact rat33_linear kn h1 h.hn h.hA mo c0 c1 c2 c3 u v k h.hk h.hck C h.hC h.hby h.hu h.hv
set_option maxHeartbeats 4000000 in
theorem smat_any {ims:List Im} {A:Option Addr} {n c lo:Nat} {w:World} {mo c0 c1 c2 c3 u v:Int} {k C:Nat} (h:AtOk ims w A n c lo mo c0 c1 c2 c3 u v k C) (kn:Int) {g:Nat} (nm fb fr:Value) (nn:Int) (sup:Bool) (hK:Bk w g 95 (samA (.slice A n c) nm fb fr nn sup mo c0 c1 c2 c3))
 (hfb:(kn=0∧fb=.func (.func 83) #[] #[])∨(kn=2∧fb=.func (.func 87) #[] #[])∨((kn=1∨kn=3)∧fb=.func (.func 85) #[] #[])) :
 Calls Tryz.prog 49 #[.pointer (some ⟨g,0,none⟩),.int .i64 k,.int .i64 u,.int .i64 v] w fun e w'=>∃ s,e=.returned (.tuple #[s,.int .i64 0])∧w'.ownsRow w.heap.size 5 1 s C ((kerL kn (ims[k]'h.hk) C mo c0 c1 c2 c3 (lvTo u k) (lvTo v k)).map (Value.int .u8))∧Below w.heap.size w w':=by
 have hL:(kerL kn (ims[k]'h.hk) C mo c0 c1 c2 c3 (lvTo u k) (lvTo v k)).length=C:=kerL_len h.hck h.hC
 have e:∀ Q:Ending→World→Prop,Calls Tryz.prog 49 #[.pointer (some ⟨g,0,none⟩),.int .i64 k,.int .i64 u,.int .i64 v] w Q→Calls Tryz.prog 49 #[.pointer (some ⟨g,0,none⟩),.int .i64 k,.int .i64 u,.int .i64 v] w Q:=fun _ x=>x
 rcases hfb with ⟨h1,rfl⟩|⟨h1,rfl⟩|⟨h1,rfl⟩
 ·refine (smat_near h.hn h.hA nm fr nn sup mo c0 c1 c2 c3 u v hK k h.hk h.hck C h.hC0 h.hu h.hv (kerL kn (ims[k]'h.hk) C mo c0 c1 c2 c3 (lvTo u k) (lvTo v k)) ?_).mono ?_
  ·intro w' hb
   unfold kerL
   rw [if_pos h1]
   exact nearBy_any h.hn (h.hA.nx hb (Nat.le_refl _)) k h.hk h.hck mo c0 c1 c2 c3 _ _ C h.hC (lvTo_bd k h.hu) (lvTo_bd k h.hv)
  ·rintro e w' ⟨s,h2,h3,h4⟩
   exact ⟨s,h2,by rw [hL] at h3;exact h3,h4⟩
 ·refine (smat_cubic h.hn h.hA nm fr nn sup mo c0 c1 c2 c3 u v hK k h.hk h.hck C h.hC0 h.hu h.hv (kerL kn (ims[k]'h.hk) C mo c0 c1 c2 c3 (lvTo u k) (lvTo v k)) ?_).mono ?_
  ·intro w' hb
   unfold kerL
   rw [if_neg (by omega),if_pos h1]
   exact cubBy_any h.hn (h.hA.nx hb (Nat.le_refl _)) k h.hk h.hck mo c0 c1 c2 c3 _ _ C h.hC h.hby (lvTo_bd k h.hu) (lvTo_bd k h.hv)
  ·rintro e w' ⟨s,h2,h3,h4⟩
   exact ⟨s,h2,by rw [hL] at h3;exact h3,h4⟩
 ·refine (smat_linear h.hn h.hA nm fr nn sup mo c0 c1 c2 c3 u v hK k h.hk h.hck C h.hC0 h.hu h.hv (kerL kn (ims[k]'h.hk) C mo c0 c1 c2 c3 (lvTo u k) (lvTo v k)) ?_).mono ?_
  ·intro w' hb
   unfold kerL
   rw [if_neg (by omega),if_neg (by omega)]
   exact linBy_any h.hn (h.hA.nx hb (Nat.le_refl _)) k h.hk h.hck mo c0 c1 c2 c3 _ _ C h.hC h.hby (lvTo_bd k h.hu) (lvTo_bd k h.hv)
  ·rintro e w' ⟨s,h2,h3,h4⟩
   exact ⟨s,h2,by rw [hL] at h3;exact h3,h4⟩
end Go.Proofs.YtjbelhpgbcnlmaaGreat
end
section
set_option linter.unusedVariables false
namespace Go.Proofs.YtjbelhpgbcnlmaaGreat
open Go.RowKit
abbrev p4V (a b c d:Int):Array Value:=#[.int .i64 a,.int .i64 b,.int .i64 c,.int .i64 d]
structure AtW (w:World) (m:Im) (A:Option Addr) (cp:Nat) (kk nn mo c0 c1 c2 c3 u v k l:Int) (wx:World):Prop where
 bel:Below w.heap.size w wx
 k3:Bk wx w.heap.size 24 #[.int .i64 m.W,.int .i64 m.H,.int .i64 m.C,.slice A m.px.length cp]
 k4:Bk wx (w.heap.size+1) 29 (howV kk nn mo c0 c1 c2 c3)
 k5:Bk wx (w.heap.size+1+1) 211 (p4V u v k l)
section
variable {w:World} {m:Im} {A:Option Addr} {cp:Nat} {kk nn mo c0 c1 c2 c3 u v k l:Int} {wx wy:World}
theorem AtW.nx (h:AtW w m A cp kk nn mo c0 c1 c2 c3 u v k l wx) (hb:Below wx.heap.size wx wy):AtW w m A cp kk nn mo c0 c1 c2 c3 u v k l wy :=
 ⟨h.bel.trans (hb.mono h.bel.size),h.k3.nx hb,h.k4.nx hb,h.k5.nx hb⟩
end
theorem Bk.cell7h {w:World} {g:Nat} {t:TypeId} {v0 v1 v2 v3 v4 v5 v6:Value} (h:Bk w g t #[v0,v1,v2,v3,v4,v5,v6]):w.cell? ⟨g,0,none⟩=some v0∧w.cell? ⟨g,1,none⟩=some v1∧w.cell? ⟨g,2,none⟩=some v2∧w.cell? ⟨g,3,none⟩=some v3∧w.cell? ⟨g,4,none⟩=some v4∧w.cell? ⟨g,5,none⟩=some v5∧w.cell? ⟨g,6,none⟩=some v6 :=
 ⟨by rw [h.cell];rfl,by rw [h.cell];rfl,by rw [h.cell];rfl,by rw [h.cell];rfl,by rw [h.cell];rfl,by rw [h.cell];rfl,by rw [h.cell];rfl⟩
end Go.Proofs.YtjbelhpgbcnlmaaGreat
end
end
section
set_option linter.unusedVariables false
namespace Go.Proofs.YtjbelhpgbcnlmaaGreat
open Go.RowKit
set_option maxRecDepth 100000 in
set_option maxHeartbeats 8000000 in
theorem lof_err (p:Option Addr) (x y m c:Int) (w:World) (hc:Hid (c≠0)) (hR:Calls Tryz.prog 95 #[.pointer p,.int .i64 x,.int .i64 y] w fun e w'=>e=.returned (.tuple #[.int .i64 0,.int .i64 c])∧Below w.heap.size w w') :
 Calls Tryz.prog 46 #[.pointer p,.int .i64 x,.int .i64 y,.int .i64 m] w fun e w'=>e=.returned (.tuple #[.int .i64 0,.int .i64 c])∧Below w.heap.size w w':=by
 have hb:(c != 0)=true:=by simpa using hc.out
 go_enter Tryz.func46,Tryz.ntmps46
 go_wp2_with (first
  | (go_at_call 95;(with_reducible refine hR.mono ?_);rintro e w1 ⟨rfl,hb1⟩))
 go_returns
 exact ⟨rfl,hb1⟩
set_option maxRecDepth 100000 in
set_option maxHeartbeats 8000000 in
theorem lof_ok (p:Option Addr) (x y m d z:Int) (w:World) (hR:Calls Tryz.prog 95 #[.pointer p,.int .i64 x,.int .i64 y] w fun e w'=>e=.returned (.tuple #[.int .i64 d,.int .i64 0])∧Below w.heap.size w w')
 (hP:∀ w':World,Calls Tryz.prog 96 #[.int .i64 d,.int .i64 m] w' fun e w''=>e=.returned (.int .i64 z)∧w'=w'') :
 Calls Tryz.prog 46 #[.pointer p,.int .i64 x,.int .i64 y,.int .i64 m] w fun e w'=>e=.returned (.tuple #[.int .i64 z,.int .i64 0])∧Below w.heap.size w w':=by
 go_enter Tryz.func46,Tryz.ntmps46
 go_wp2_with (first
  | (go_at_call 95;(with_reducible refine hR.mono ?_);rintro e w1 ⟨rfl,hb1⟩)
  | (go_at_call 96;(with_reducible refine (hP _).mono ?_);rintro e w2 ⟨rfl,rfl⟩))
 go_returns
 exact ⟨rfl,hb1⟩
end Go.Proofs.YtjbelhpgbcnlmaaGreat
end
section
set_option linter.unusedVariables false
namespace Go.Proofs.YtjbelhpgbcnlmaaGreat
open Go.RowKit
def subL (m:Im) (C:Nat) (mo c0 c1 c2 c3:Int) (F G:Int→Int→Int→Int) (x y:Int) (k q t:Nat):List Int :=
 kerL 3 m C mo c0 c1 c2 c3 (lvTo (F (2*q*x+2*((t%q:Nat):Int)+1-q) (2*q*y+2*((t/q:Nat):Int)+1-q) (2*q)) k) (lvTo (G (2*q*x+2*((t%q:Nat):Int)+1-q) (2*q*y+2*((t/q:Nat):Int)+1-q) (2*q)) k)
def pixL (m:Im) (C:Nat) (kk nn mo c0 c1 c2 c3:Int) (F G:Int→Int→Int→Int) (x y:Int) (k:Nat):List Int :=
 if kk=3 then (List.range C).map fun j=>meanZ (manyS (subL m C mo c0 c1 c2 c3 F G x y k nn.toNat) (nn.toNat*nn.toNat) j) ((nn.toNat:Int)*(nn.toNat:Int))
 else kerL kk m C mo c0 c1 c2 c3 (lvTo (F x y 1) k) (lvTo (G x y 1) k)
theorem subL_bd {m:Im} {C:Nat} {mo c0 c1 c2 c3:Int} {F G:Int→Int→Int→Int} {x y:Int} {k q:Nat} (t j:Nat):0≤(subL m C mo c0 c1 c2 c3 F G x y k q t).getD j 0∧(subL m C mo c0 c1 c2 c3 F G x y k q t).getD j 0≤255:=by
 unfold subL kerL
 rw [if_neg (by decide),if_neg (by decide),List.getD_eq_getElem?_getD,List.getElem?_map]
 rcases Nat.lt_or_ge j C with h|h
 ·rw [List.getElem?_range h]
  exact linF_bd _ _ _ _
 ·rw [List.getElem?_eq_none (by simpa using h)]
  simp
structure PixIn (ims:List Im) (n C k:Nat) (kk nn mo c0 c1 c2 c3:Int) (F G E:Int→Int→Int→Int) (W H x y:Int):Prop where
 hn:ims.length=n
 n16:1≤n∧n≤16
 C4:C≤4
 hk:k<ims.length
 hck:checkC ims[k].W ims[k].H ims[k].C ims[k].px.length=0
 hC:ims[k].C=C
 hC0:(im0 ims).C=C
 hby:∀ x y j,0≤(pxM ims[k] mo c0 c1 c2 c3 x y).getD j 0∧(pxM ims[k] mo c0 c1 c2 c3 x y).getD j 0≤255
 hkk:0≤kk∧kk≤3
 hnn:kk=3→1≤nn∧nn≤8
 hx:0≤x∧x<W
 hy:0≤y∧y<H
 hW:W≤32768
 hH:H≤32768
 hP:∀ a b d:Int,1≤d→d≤16→-d≤2*a→2*a≤(2*W-1)*d→-d≤2*b→2*b≤(2*H-1)*d→E a b d=0∧I46 (F a b d)∧I46 (G a b d)
 hlv:lv (rchZ F G W H x y) (lvTop ((n:Int)-1))=k
theorem sub_in {W x:Int} {q j:Nat} (hq:1≤q∧q≤8) (hj:j<q) (hx:0≤x∧x<W):-(2*(q:Int))≤2*(2*q*x+2*j+1-q)∧2*(2*(q:Int)*x+2*j+1-q)≤(2*W-1)*(2*q):=by
 have h1:0≤(q:Int)*x:=Int.mul_nonneg (by omega) hx.1
 have h2:(q:Int)*x≤(q:Int)*(W-1):=Int.mul_le_mul_of_nonneg_left (by omega) (by omega)
 have e1:2*(q:Int)*x=2*((q:Int)*x):=Int.mul_assoc _ _ _
 have e2:(2*W-1)*(2*(q:Int))=4*((q:Int)*(W-1))+2*q:=by
  simp only [Int.sub_mul,Int.mul_sub,Int.one_mul,Int.mul_one]
  have:2*W*(2*(q:Int))=4*((q:Int)*W):=by
   rw [Int.mul_comm (q:Int) W,Int.mul_assoc,Int.mul_left_comm W 2 q,← Int.mul_assoc];rfl
  omega
 rw [e1,e2]
 omega
section
variable {ims:List Im} {n C k:Nat} {kk nn mo c0 c1 c2 c3:Int} {F G E:Int→Int→Int→Int} {W H x y:Int}
theorem PixIn.one (h:PixIn ims n C k kk nn mo c0 c1 c2 c3 F G E W H x y) {a b:Int} (ha:0≤a∧a<W) (hb:0≤b∧b<H):E a b 1=0∧I46 (F a b 1)∧I46 (G a b 1) :=
 h.hP a b 1 (by omega) (by omega) (by omega) (by omega) (by omega) (by omega)
theorem PixIn.sub (h:PixIn ims n C k kk nn mo c0 c1 c2 c3 F G E W H x y) {q i j:Nat} (hq:1≤q∧q≤8) (hi:i<q) (hj:j<q) :
 E (2*q*x+2*j+1-q) (2*q*y+2*i+1-q) (2*q)=0∧I46 (F (2*q*x+2*j+1-q) (2*q*y+2*i+1-q) (2*q))∧I46 (G (2*q*x+2*j+1-q) (2*q*y+2*i+1-q) (2*q)):=by
 obtain ⟨a1,a2⟩:=sub_in hq hj h.hx
 obtain ⟨b1,b2⟩:=sub_in hq hi h.hy
 exact h.hP _ _ _ (by omega) (by omega) a1 a2 b1 b2
theorem PixIn.ok (h:PixIn ims n C k kk nn mo c0 c1 c2 c3 F G E W H x y) {A:Option Addr} {c lo:Nat} {w:World} {u v:Int} (hA:ImsAt w lo A ims) (hu:I46 u) (hv:I46 v):AtOk ims w A n c lo mo c0 c1 c2 c3 u v k C :=
 ⟨h.hn,hA,h.hk,h.hck,h.hC,h.hC0,h.hby,hu,hv⟩
theorem PixIn.rpix (h:PixIn ims n C k kk nn mo c0 c1 c2 c3 F G E W H x y) {A:Option Addr} {c lo:Nat} {kx:Int} {Ax:Option Addr} {nx cx:Nat} {w:World} (hA:ImsAt w lo A ims)
 (hAt:∀ (a b d:Int) (w':World),Below w.heap.size w w'→Calls Tryz.prog 59 #[xfV kx Ax nx cx,.int .i64 a,.int .i64 b,.int .i64 d] w' fun e w''=>e=.returned (.tuple #[.int .i64 (F a b d),.int .i64 (G a b d),.int .i64 (E a b d)])∧Below w'.heap.size w' w'') :
 Calls Tryz.prog 19 #[.slice A n c,.int .i64 kk,.int .i64 nn,bdV mo c0 c1 c2 c3,xfV kx Ax nx cx,.int .i64 W,.int .i64 H,.int .i64 x,.int .i64 y] w fun e w'=>∃ s,e=.returned s∧w'.ownsRow w.heap.size 5 1 s C ((pixL (ims[k]'h.hk) C kk nn mo c0 c1 c2 c3 F G x y k).map (Value.int .u8))∧Below w.heap.size w w':=by
 have hRe:∀ w',Below w.heap.size w w'→Calls Tryz.prog 58 #[xfV kx Ax nx cx,.int .i64 W,.int .i64 H,.int .i64 x,.int .i64 y] w' fun e w''=>e=.returned (.int .i64 (rchZ F G W H x y))∧Below w'.heap.size w' w'':=fun w' hb =>
  rreach_in kx W H x y Ax nx cx F G E w' h.hW h.hH h.hx h.hy (fun a b a0 a1 b0 b1=>(h.one ⟨a0,a1⟩ ⟨b0,b1⟩).2) (fun a b w'' hb'=>hAt a b 1 w'' (hb.trans (hb'.mono hb.size)))
 unfold pixL
 by_cases h3:kk=3
 ·subst h3
  rw [if_pos rfl]
  obtain ⟨n0,n8⟩:=h.hnn rfl
  obtain ⟨q,rfl⟩:∃ q:Nat,nn=q:=⟨nn.toNat,by omega⟩
  simp only [Int.toNat_natCast]
  have hq:1≤q∧q≤8:=⟨by omega,by omega⟩
  obtain ⟨b,o,A0,ci,rfl,_,hbw,_,_,hz2,_⟩:=hA.get 0 (show 0<ims.length by have:=h.hk;omega)
  have hCz:ims[0]'(by have:=h.hk;omega)=im0 ims:=by
   have:=h.hk
   unfold im0
   cases ims with
   | nil=>simp at this
   | cons a r=>rfl
  rw [hCz,h.hC0,show o+0*4+2=o+2 by omega] at hz2
  have hdm:∀ t,t<q*q→t/q<q∧t%q<q:=fun t ht=>⟨Nat.div_lt_of_lt_mul ht,Nat.mod_lt _ (by omega)⟩
  refine rpix_area _ n c C q b o mo c0 c1 c2 c3 kx Ax nx cx W H x y (rchZ F G W H x y) k (fun j=>2*q*x+2*j+1-q) (fun i=>2*q*y+2*i+1-q)
   (fun t=>F (2*q*x+2*((t%q:Nat):Int)+1-q) (2*q*y+2*((t/q:Nat):Int)+1-q) (2*q)) (fun t=>G (2*q*x+2*((t%q:Nat):Int)+1-q) (2*q*y+2*((t/q:Nat):Int)+1-q) (2*q)) (fun t=>E (2*q*x+2*((t%q:Nat):Int)+1-q) (2*q*y+2*((t/q:Nat):Int)+1-q) (2*q))
   (subL (ims[k]'h.hk) C mo c0 c1 c2 c3 F G x y k q) w h.n16 hq h.C4 ⟨h.hx.1,by have:=h.hx.2;have:=h.hW;omega⟩ ⟨h.hy.1,by have:=h.hy.2;have:=h.hH;omega⟩ rfl hbw hz2 (fun _=>rfl) (fun _=>rfl) hRe h.hlv (fun t _=>kerL_len h.hck h.hC) subL_bd (fun t _ w' hb=>hAt _ _ _ w' hb) (fun t ht w' hb=>?_)
  obtain ⟨_,hu,hv⟩:=h.sub hq (hdm t ht).1 (hdm t ht).2
  exact rat33_any (h.ok (ImsAt.nx hA hb (Nat.le_refl _)) hu hv) 3 ⟨by omega,by omega⟩
 ·rw [if_neg h3]
  obtain ⟨_,hu,hv⟩:=h.one h.hx h.hy
  exact rpix_plain A n c C kk nn mo c0 c1 c2 c3 kx Ax nx cx W H x y (rchZ F G W H x y) k (F x y 1) (G x y 1) (E x y 1) _ w h3 h.n16 hRe h.hlv (fun w' hb=>hAt _ _ _ w' hb) (fun w' hb=>rat33_any (h.ok (ImsAt.nx hA hb (Nat.le_refl _)) hu hv) kk h.hkk)
theorem PixIn.spix (h:PixIn ims n C k kk nn mo c0 c1 c2 c3 F G E W H x y) {A:Option Addr} {c lo g q:Nat} {nm fb fr:Value} {kx:Int} {vx:Value} {w:World} (hA:ImsAt w lo A ims)
 (hK:Bk w g 95 (samA (.slice A n c) nm fb fr nn (kk==3) mo c0 c1 c2 c3))
 (hfb:(kk=0∧fb=.func (.func 83) #[] #[])∨(kk=2∧fb=.func (.func 87) #[] #[])∨((kk=1∨kk=3)∧fb=.func (.func 85) #[] #[]))
 (hX:Bk w q 100 #[.int .i64 kx,.int .i64 W,.int .i64 H,vx])
 (hAt:∀ (a b d:Int) (w':World),Below w.heap.size w w'→Calls Tryz.prog 48 #[.pointer (some ⟨q,0,none⟩),.int .i64 a,.int .i64 b,.int .i64 d] w' fun e w''=>e=.returned (.tuple #[.int .i64 (F a b d),.int .i64 (G a b d),.int .i64 (E a b d)])∧Below w'.heap.size w' w'') :
 Calls Tryz.prog 15 #[.pointer (some ⟨g,0,none⟩),.pointer (some ⟨q,0,none⟩),.int .i64 x,.int .i64 y] w fun e w'=>∃ s,e=.returned (.tuple #[s,.int .i64 0])∧w'.ownsRow w.heap.size 5 1 s C ((pixL (ims[k]'h.hk) C kk nn mo c0 c1 c2 c3 F G x y k).map (Value.int .u8))∧Below w.heap.size w w':=by
 have hRe:=reach_in kx W H x y vx q F G E w hX h.hW h.hH h.hx h.hy (fun a b a0 a1 b0 b1=>(h.one ⟨a0,a1⟩ ⟨b0,b1⟩).2) (fun a b w'' hb'=>hAt a b 1 w'' hb')
 have hO:=lof_ok (some ⟨q,0,none⟩) x y ((n:Int)-1) (rchZ F G W H x y) k w hRe (fun w'=>by rw [← h.hlv];exact lv_pick_any _ _ w')
 unfold pixL
 by_cases h3:kk=3
 ·subst h3
  rw [if_pos rfl]
  obtain ⟨n0,n8⟩:=h.hnn rfl
  obtain ⟨qn,rfl⟩:∃ qn:Nat,nn=qn:=⟨nn.toNat,by omega⟩
  simp only [Int.toNat_natCast]
  have hq:1≤qn∧qn≤8:=⟨by omega,by omega⟩
  have hdm:∀ t,t<qn*qn→t/qn<qn∧t%qn<qn:=fun t ht=>⟨Nat.div_lt_of_lt_mul ht,Nat.mod_lt _ (by omega)⟩
  refine spix_super A n c g nm fb fr qn mo c0 c1 c2 c3 x y k C _ (some ⟨q,0,none⟩) w hK h.n16 hO (fun w1 hb1=>?_)
  refine many_any g C qn (.slice A n c) nm fb fr true mo c0 c1 c2 c3 (some ⟨q,0,none⟩) k x y (fun j=>2*qn*x+2*j+1-qn) (fun i=>2*qn*y+2*i+1-qn)
   (fun t=>F (2*qn*x+2*((t%qn:Nat):Int)+1-qn) (2*qn*y+2*((t/qn:Nat):Int)+1-qn) (2*qn)) (fun t=>G (2*qn*x+2*((t%qn:Nat):Int)+1-qn) (2*qn*y+2*((t/qn:Nat):Int)+1-qn) (2*qn))
   (subL (ims[k]'h.hk) C mo c0 c1 c2 c3 F G x y k qn) w1 (hK.nx hb1) hq h.C4 ⟨h.hx.1,by have:=h.hx.2;have:=h.hW;omega⟩ ⟨h.hy.1,by have:=h.hy.2;have:=h.hH;omega⟩ (fun _=>rfl) (fun _=>rfl) (fun w' hb=>?_) (fun t _=>kerL_len h.hck h.hC) subL_bd (fun i j hi hj w' hb=>?_) (fun t ht w' hb=>?_)
  ·have hA':=ImsAt.nx (ImsAt.nx hA hb1 (Nat.le_refl _)) hb (Nat.le_refl _)
   have:=channels_any (c:=c) h.hn hA' (show 0<n by have:=h.n16.1;omega)
   rw [h.hC0] at this
   exact this
  ·have e1:(i*qn+j)%qn=j:=by rw [Nat.mul_comm,Nat.mul_add_mod];exact Nat.mod_eq_of_lt hj
   have e2:(i*qn+j)/qn=i:=by rw [Nat.mul_comm,Nat.mul_add_div (by omega),Nat.div_eq_of_lt hj,Nat.add_zero]
   have h0:=(h.sub hq hi hj).1
   have:=hAt (2*qn*x+2*j+1-qn) (2*qn*y+2*i+1-qn) (2*qn) w' (hb1.trans (hb.mono hb1.size))
   rw [h0] at this
   simp only [e1,e2]
   exact this
  ·obtain ⟨_,hu,hv⟩:=h.sub hq (hdm t ht).1 (hdm t ht).2
   exact smat_any (h.ok (ImsAt.nx (ImsAt.nx hA hb1 (Nat.le_refl _)) hb (Nat.le_refl _)) hu hv) 3 nm fb fr qn true ((hK.nx hb1).nx hb) hfb
 ·rw [if_neg h3]
  have hkb:(kk==3)=false:=by simpa using h3
  rw [hkb] at hK
  obtain ⟨h0,hu,hv⟩:=h.one h.hx h.hy
  refine spix_plain A n c g nm fb fr nn mo c0 c1 c2 c3 x y k (F x y 1) (G x y 1) C _ (some ⟨q,0,none⟩) w hK h.n16 hO (fun w' hb=>?_) (fun w' hb=>smat_any (h.ok (ImsAt.nx hA hb (Nat.le_refl _)) hu hv) kk nm fb fr nn false (hK.nx hb) hfb)
  have:=hAt x y 1 w' hb
  rw [h0] at this
  exact this
end
end Go.Proofs.YtjbelhpgbcnlmaaGreat
end
section
set_option linter.unusedVariables false
namespace Go.Proofs.YtjbelhpgbcnlmaaGreat
open Go.RowKit
theorem ca_xform:Tryz.prog.cellsOf 32=2:=by kernel_rfl
theorem ca_nums:Tryz.prog.cellsOf 30=1:=by kernel_rfl
set_option maxRecDepth 100000 in
theorem open_xform {w:World} {cs:List Value} (h:Rv Tryz.prog w 32 cs):∃ (k:Int) (A:Option Addr) (n c:Nat) (l:List Int),cs=[.int .i64 k,.slice A n c]∧I64 k∧l.length=n∧n≤c∧c≤maxLen∧(∀ z∈l,-9223372036854775808≤z∧z≤9223372036854775807)∧Rd w w.heap.size A (l.map (Value.int .i64)):=by
 obtain ⟨hl,hf⟩:=rv_struct Tryz.underlying32 h
 rw [ca_xform] at hl
 match cs,hl with
 | [v0,v1],_ =>
   have g0:Rv Tryz.prog w 3 (([v0,v1].drop 0).take (Tryz.prog.cellsOf 3)):=hf 0 _ rfl
   have g1:Rv Tryz.prog w 30 (([v0,v1].drop 1).take (Tryz.prog.cellsOf 30)):=hf 1 _ rfl
   rw [ca_int] at g0
   rw [ca_nums] at g1
   obtain ⟨a,e0,i0⟩:=rv_int Tryz.underlying3 g0
   obtain ⟨A,n,c,l,e1,h1,h2,h3,h4,h5⟩:=rv_ints Tryz.underlying30 Tryz.underlying2 ca_i64 g1
   simp at e0 e1
   subst e0 e1
   exact ⟨a,A,n,c,l,rfl,wf_i64 i0,h3,h1,h2,fun z hz=>wf_i64 (h4 z hz),h5⟩
end Go.Proofs.YtjbelhpgbcnlmaaGreat
end
