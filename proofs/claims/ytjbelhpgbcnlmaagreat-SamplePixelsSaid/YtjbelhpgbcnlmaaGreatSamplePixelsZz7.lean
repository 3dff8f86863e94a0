/- Several texts in one: Pixels within and beyond an image: plain, and of the reference. sample: the pixel of a column and a row of a source's image, and what stands beyond it; near.By. near.By, of a source's image. weight.Mix. -/
import Derived.Test.YtjbelhpgbcnlmaaGreatSamplePixelsZz6
import Derived.Test.YtjbelhpgbcnlmaaGreatSamplePixelsZz2
import Derived.Test.YtjbelhpgbcnlmaaGreatSamplePixelsZz1
import Derived.Test.YtjbelhpgbcnlmaaGreatSamplePixelsZz4
import Derived.Laws.EntriesVeiled
import Derived.Deep.QuietTactic
import Derived.BigQuiet
section
set_option linter.unusedVariables false
namespace Go.Proofs.YtjbelhpgbcnlmaaGreat
open Go.RowKit
theorem bl_alloc {w w':World} {o:Obj} (h:Below (w.alloc o).heap.size (w.alloc o) w'):Below w.heap.size w w':=((Below.refl w.heap.size w).alloc (Nat.le_refl _) o).trans (h.mono (by simp))
abbrev bordV (m a b c d:Int):Value:=.agg #[.int .i64 m,.int .u8 a,.int .u8 b,.int .u8 c,.int .u8 d]
abbrev imgV (W H:Int) (C:Nat) (A:Option Addr) (n cp:Nat):Value:=.agg #[.int .i64 W,.int .i64 H,.int .i64 C,.slice A n cp]
def pAt (W H:Int) (C:Nat) (m x y:Int):Int:=((idx m y H).1*W+(idx m x W).1)*C
def pOk (W H m x y:Int):Bool:=(idx m x W).2&&(idx m y H).2
def pxl (P:List Int) (W H:Int) (C:Nat) (m a b c d x y:Int):List Int:=if pOk W H m x y=true then (P.drop (pAt W H C m x y).toNat).take C else [a,b,c,d].take C
theorem pAt_bd {W H m x y:Int} {C:Nat} (h:pOk W H m x y=true) (hW:1≤W∧W≤32768) (hH:1≤H∧H≤32768) (hC:C≤4) :
 0≤(idx m y H).1*W∧(idx m y H).1*W≤1073741824∧0≤(idx m y H).1*W+(idx m x W).1∧(idx m y H).1*W+(idx m x W).1≤1073774592∧0≤pAt W H C m x y∧pAt W H C m x y≤4295098368∧pAt W H C m x y+C≤W*H*C:=by
 unfold pOk at h
 simp only [Bool.and_eq_true] at h
 obtain ⟨h1,h2⟩:=idx_bd h.1
 obtain ⟨h3,h4⟩:=idx_bd h.2
 unfold pAt
 generalize (idx m y H).1=r at *
 generalize (idx m x W).1=q at *
 have e1:0≤r*W:=Int.mul_nonneg h3 (by omega)
 have e2:r*W≤(H-1)*W:=Int.mul_le_mul_of_nonneg_right (by omega) (by omega)
 have e3:(H-1)*W≤32767*W:=Int.mul_le_mul_of_nonneg_right (by omega) (by omega)
 have e4:r*W+q+1≤W*H:=by rw [Int.sub_mul,Int.one_mul,Int.mul_comm H W] at e2;omega
 have e5:(r*W+q+1)*(C:Int)≤W*H*C:=Int.mul_le_mul_of_nonneg_right e4 (by omega)
 rw [Int.add_mul,Int.one_mul] at e5
 have e6:0≤(r*W+q)*(C:Int):=Int.mul_nonneg (by omega) (by omega)
 have e7:(r*W+q)*(C:Int)≤(r*W+q)*4:=Int.mul_le_mul_of_nonneg_left (by omega) (by omega)
 refine ⟨e1,by omega,by omega,by omega,e6,by omega,by omega⟩
theorem pxl_len {P:List Int} {W H:Int} {C:Nat} {m a b c d x y:Int} {n:Nat} (hn:P.length=n) (hc:(n:Int)=W*H*C) (hW:1≤W∧W≤32768) (hH:1≤H∧H≤32768) (hC:C≤4):(pxl P W H C m a b c d x y).length=C:=by
 unfold pxl
 split
 ·rename_i h
  have:=pAt_bd (C:=C) h hW hH hC
  simp
  omega
 ·simp
  omega
theorem keepI {w w':World} {B g b o:Nat} {x y z u v:Value} (h1:w.cell? ⟨g,0,none⟩=some x) (h2:w.cell? ⟨g,1,none⟩=some y) (h3:w.cell? ⟨g,2,none⟩=some z) (h4:w.cell? ⟨g,3,none⟩=some u) (hg:g<B) (h5:w.cell? ⟨b,o,none⟩=some v) (hb:b<B) (h:Below B w w') :
 (w'.cell? ⟨g,0,none⟩=some x∧w'.cell? ⟨g,1,none⟩=some y∧w'.cell? ⟨g,2,none⟩=some z∧w'.cell? ⟨g,3,none⟩=some u)∧w'.cell? ⟨b,o,none⟩=some v∧Below B w w' :=
 ⟨⟨(h.cell (by exact hg)).trans h1,(h.cell (by exact hg)).trans h2,(h.cell (by exact hg)).trans h3,(h.cell (by exact hg)).trans h4⟩,(h.cell (by exact hb)).trans h5,h⟩
theorem bord_size:(Tryz.prog.info? 27).map (·.size)=some 5:=by kernel_rfl
theorem check_parts {W H C:Int} {n:Nat} (h:checkC W H C n=0):fitsC W H C=0∧(n:Int)=W*H*C:=by
 unfold checkC at h
 split at h
 ·omega
 ·rename_i h1
  refine ⟨h,?_⟩
  by_cases h2:(n:Int)=W*H*C
  ·exact h2
  ·exact absurd ⟨h,h2⟩ h1
set_option maxRecDepth 100000 in
set_option maxHeartbeats 2000000 in
theorem rplace_any (W H:Int) (C:Nat) (A:Option Addr) (n cp:Nat) (x y:Int) (k:Nat) (w:World) (h:checkC W H C n=0) (hx:0≤x∧x<W) (hy:0≤y∧y<H) (hk:k<C) :
 Calls Tryz.prog 32 #[imgV W H C A n cp,.int .i64 x,.int .i64 y,.int .i64 k] w fun e w'=>e=.returned (.int .i64 ((y*W+x)*C+k))∧Below w.heap.size w w':=by
 obtain ⟨hf1,hf2⟩:=check_parts h
 obtain ⟨hc,hw1,hw2,hh1,hh2,hp⟩:=fitsC_ok hf1
 have e1:0≤y*W:=Int.mul_nonneg hy.1 (by omega)
 have e2:y*W≤32768*W:=Int.mul_le_mul_of_nonneg_right (by omega) (by omega)
 have e6:0≤(y*W+x)*(C:Int):=Int.mul_nonneg (by omega) (by omega)
 have e7:(y*W+x)*(C:Int)≤(y*W+x)*4:=Int.mul_le_mul_of_nonneg_left (by omega) (by omega)
 have v1:wrap64 (y*W)=y*W:=IntWalk.wrap64_in _ ⟨by omega,by omega⟩
 have v2:wrap64 (y*W+x)=y*W+x:=IntWalk.wrap64_in _ ⟨by omega,by omega⟩
 have v3:wrap64 ((y*W+x)*C)=(y*W+x)*C:=IntWalk.wrap64_in _ ⟨by omega,by omega⟩
 have v4:wrap64 ((y*W+x)*C+k)=(y*W+x)*C+k:=IntWalk.wrap64_in _ ⟨by omega,by omega⟩
 have HH:=Lib.hid h
 obtain ⟨hx1,hx2⟩:=hx
 obtain ⟨hy1,hy2⟩:=hy
 clear h e1 e2 e6 e7 hp hc hf1 hf2
 go_enter Tryz.func32,Tryz.ntmps32
 go_wp2_with (go_at_call 27;(with_reducible refine (rcheck_ok _ _ _ _ _ _ _ HH.out).mono ?_);rintro e w' ⟨rfl,hb⟩;have hb1:=bl_alloc hb;have hcb:=bcell hb)
 go_returns
 exact ⟨ret_int (by first | rfl|exact v4),hb1⟩
set_option maxRecDepth 100000 in
set_option maxHeartbeats 4000000 in
theorem rat_any (W H:Int) (C:Nat) (A:Option Addr) (n cp:Nat) (P:List Int) (m a b c d x y:Int) (k:Nat) (w:World) {B:Nat} (h:checkC W H C n=0) (hP:P.length=n) (hr:Rd w B A (P.map (Value.int .u8))) (hB:B≤w.heap.size) (hcp:n≤cp) (hk:k<C)
 (hx:-9223372036854775808<x∧x≤9223372036854775807) (hy:-9223372036854775808<y∧y≤9223372036854775807) :
 Calls Tryz.prog 28 #[imgV W H C A n cp,bordV m a b c d,.int .i64 x,.int .i64 y,.int .i64 k] w fun e w'=>e=.returned (.int .u8 ((pxl P W H C m a b c d x y).getD k 0))∧Below w.heap.size w w':=by
 obtain ⟨hf1,hf2⟩:=check_parts h
 obtain ⟨hc,hw1,hw2,hh1,hh2,hp⟩:=fitsC_ok hf1
 have hC4:C≤4:=by omega
 go_enter Tryz.func28,Tryz.ntmps28
 have hb00:Below w.heap.size w ((w.alloc (.cells #[.int .i64 W,.int .i64 H,.int .i64 C,.slice A n cp] 24)).alloc (.cells #[.int .i64 m,.int .u8 a,.int .u8 b,.int .u8 c,.int .u8 d] 27)):=by go_grown
 have hKm:=(Bk.new w 24 #[.int .i64 W,.int .i64 H,.int .i64 C,.slice A n cp]).alloc (.cells #[.int .i64 m,.int .u8 a,.int .u8 b,.int .u8 c,.int .u8 d] 27)
 have hKb:=Bk.new (w.alloc (.cells #[.int .i64 W,.int .i64 H,.int .i64 C,.slice A n cp] 24)) 27 #[.int .i64 m,.int .u8 a,.int .u8 b,.int .u8 c,.int .u8 d]
 simp only [World.size_alloc] at hKb
 go_wp2_with fail
 refine (rindex_any m x W _ (by omega) hx.2 (by omega)).mono ?_
 rintro e w2 ⟨rfl,hb2⟩
 have hKm2:=hKm.nx hb2
 have hKb2:=hKb.nx hb2
 have hz2:=hb2.size
 have hbz2:=hb00.trans (hb2.mono (by simp <;> omega))
 simp only [World.size_alloc] at hz2
 clear hKm hKb hb2 hb00
 obtain ⟨i0,i1,i2,i3⟩:=hKm2.cell4
 have j0:=hKb2.cell 0
 simp at j0
 go_wp2_with fail
 refine (rindex_any m y H _ (by omega) hy.2 (by omega)).mono ?_
 rintro e w3 ⟨rfl,hb3⟩
 have hKm3:=hKm2.nx hb3
 have hKb3:=hKb2.nx hb3
 have hz3:=hb3.size
 have hbz3:=hbz2.trans (hb3.mono (by omega))
 clear hKm2 hKb2 hb3 hbz2 i0 i1 i2 i3 j0
 obtain ⟨i0,i1,i2,i3⟩:=hKm3.cell4
 have hlm3:=hKm3.lt
 have hlb3:=hKb3.lt
 by_cases hok:pOk W H m x y=true
 ·have hpx:(pxl P W H C m a b c d x y).getD k 0=P.getD ((pAt W H C m x y).toNat+k) 0:=by
   unfold pxl;rw [if_pos hok,List.getD_eq_getElem?_getD,List.getD_eq_getElem?_getD,List.getElem?_take_of_lt hk,List.getElem?_drop]
  obtain ⟨q1,q2,q3,q4,q5,q6,q7⟩:=pAt_bd (C:=C) hok ⟨hw1,hw2⟩ ⟨hh1,hh2⟩ hC4
  unfold pOk at hok
  simp only [Bool.and_eq_true] at hok
  obtain ⟨ho1,ho2⟩:=hok
  have hxb:=idx_bd ho1
  have hyb:=idx_bd ho2
  have hQe:((idx m y H).1*W+(idx m x W).1)*C+k=(((pAt W H C m x y).toNat+k:Nat):Int):=by
   have:((pAt W H C m x y).toNat:Int)=pAt W H C m x y:=Int.toNat_of_nonneg q5
   rw [Int.natCast_add,this];rfl
  generalize hQ:(pAt W H C m x y).toNat=Q at *
  have hQn:Q+k<n:=by omega
  generalize hJ:Q+k=J at *
  have hr3:Rd w3 B A (P.map (Value.int .u8)):=hr.below' hbz3 hB
  obtain ⟨bb,oo,rfl,hbb,hgc⟩:=hr3.get J (by simp;omega)
  have hgc':w3.cell? ⟨bb,oo+J,none⟩=some (.int .u8 (P.getD J 0)):=by
   rw [hgc,List.getElem_map,List.getD_eq_getElem?_getD,List.getElem?_eq_getElem (by omega)];rfl
  clear hgc hr3 hr
  have hbb3:bb<w3.heap.size:=by omega
  have HH:=Lib.hid h
  have HPX:=Lib.hid hpx
  generalize P.getD J 0=Z at *
  clear hQ hJ hpx hf2 hP q1 q2 q3 q4 q5 q6 q7 h hc hp
  have hPl:∀ w':World,Calls Tryz.prog 32 #[imgV W H C (some ⟨bb,oo,none⟩) n cp,.int .i64 (idx m x W).1,.int .i64 (idx m y H).1,.int .i64 k] w' fun e w''=>e=.returned (.int .i64 (J:Int))∧Below w'.heap.size w' w'' :=
   fun w'=>(rplace_any W H C (some ⟨bb,oo,none⟩) n cp _ _ k w' HH.out hxb hyb hk).mono fun e w'' ⟨h1,h2⟩=>⟨by rw [h1,hQe],h2⟩
  clear hQe
  have g1:(0:Int)≤(J:Int):=by omega
  have g2:(J:Int)<(n:Int):=by omega
  go_upto_region 5 with fail
  go_region_held3 (fun w'=>(w'.cell? ⟨w.heap.size,0,none⟩=some (.int .i64 W)∧w'.cell? ⟨w.heap.size,1,none⟩=some (.int .i64 H)∧w'.cell? ⟨w.heap.size,2,none⟩=some (.int .i64 C)∧w'.cell? ⟨w.heap.size,3,none⟩=some (.slice (some ⟨bb,oo,none⟩) n cp))∧w'.cell? ⟨bb,oo+J,none⟩=some (.int .u8 Z)∧Below w3.heap.size w3 w')
   (first
     | exact keepI i0 i1 i2 i3 hlm3 hgc' hbb3 hbp
     | (refine keepI i0 i1 i2 i3 hlm3 hgc' hbb3 ?_;go_grown))
   ((go_at_call 32;(with_reducible refine (hPl _).mono ?_);rintro e wp ⟨rfl,hbp'⟩;have hbp:Below w3.heap.size w3 wp:=Below.trans (by go_grown) hbp'))
  all_goals
   rename_i hHeld
   clear hHeld
   go_wp2_with fail
   go_returns
   exact ⟨by rw [HPX.out];rfl,hbz3.trans (hbp.mono (by omega))⟩
 ·have hpx:pxl P W H C m a b c d x y=[a,b,c,d].take C:=by unfold pxl;rw [if_neg hok]
  have hpx2:(pxl P W H C m a b c d x y).getD k 0=[a,b,c,d].getD k 0:=by
   rw [hpx,List.getD_eq_getElem?_getD,List.getD_eq_getElem?_getD,List.getElem?_take_of_lt hk]
  have HPX:=Lib.hid hpx2
  have hxy:(idx m x W).2=false∨((idx m x W).2=true∧(idx m y H).2=false):=by
   unfold pOk at hok
   cases h1:(idx m x W).2
   ·exact .inl rfl
   ·right
    refine ⟨rfl,?_⟩
    cases h2:(idx m y H).2
    ·rfl
    ·rw [h1,h2] at hok;simp at hok
  have j1:=hKb3.cell 1
  have j2:=hKb3.cell 2
  have j3:=hKb3.cell 3
  have j4:=hKb3.cell 4
  simp at j1 j2 j3 j4
  have hk4:k=0∨k=1∨k=2∨k=3:=by omega
  clear hpx hpx2 hok hf2 hP h
  rcases hxy with ho1|⟨ho1,ho2⟩
  all_goals
   rcases hk4 with rfl|rfl|rfl|rfl
   all_goals
    go_wp2_with fail
    go_returns
    exact ⟨by rw [HPX.out];rfl,hbz3⟩
set_option maxRecDepth 100000 in
set_option maxHeartbeats 4000000 in
theorem rpixel_any (W H:Int) (C:Nat) (A:Option Addr) (n cp:Nat) (P:List Int) (m a b c d x y:Int) (w:World) {B:Nat} (h:checkC W H C n=0) (hP:P.length=n) (hr:Rd w B A (P.map (Value.int .u8))) (hB:B≤w.heap.size) (hcp:n≤cp)
 (hx:-9223372036854775808<x∧x≤9223372036854775807) (hy:-9223372036854775808<y∧y≤9223372036854775807) :
 Calls Tryz.prog 197 #[imgV W H C A n cp,bordV m a b c d,.int .i64 x,.int .i64 y] w fun e w'=>∃ v,e=.returned v∧w'.ownsRow w.heap.size 5 1 v C ((pxl P W H C m a b c d x y).map (Value.int .u8))∧Below w.heap.size w w':=by
 obtain ⟨hf1,hf2⟩:=check_parts h
 obtain ⟨hc,hw1,hw2,hh1,hh2,hp⟩:=fitsC_ok hf1
 have hC4:C≤4:=by omega
 have hlen:=pxl_len (m:=m) (a:=a) (b:=b) (c:=c) (d:=d) (x:=x) (y:=y) hP hf2 ⟨hw1,hw2⟩ ⟨hh1,hh2⟩ hC4
 have HLEN:=Lib.hid hlen
 have HH:=Lib.hid h
 have HP:=Lib.hid hP
 clear h hP hf2 hlen
 have hat:=fun (k:Nat) (hk:k<C) (w':World) (hr':Rd w' B A (P.map (Value.int .u8))) (hB':B≤w'.heap.size)=>rat_any W H C A n cp P m a b c d x y k w' HH.out HP.out hr' hB' hcp hk hx hy
 generalize pxl P W H C m a b c d x y=X at *
 go_enter Tryz.func197,Tryz.ntmps197
 go_wp2_with fail
 go_loopw [9,10] (fun v i wr=>∃ k:Nat,k≤C∧i=.int .i64 k∧wr.ownsRow (w.heap.size+2) 5 1 v k ((X.take k).map (Value.int .u8))∧Bk wr w.heap.size 24 #[.int .i64 W,.int .i64 H,.int .i64 C,.slice A n cp]∧Bk wr (w.heap.size+1) 27 #[.int .i64 m,.int .u8 a,.int .u8 b,.int .u8 c,.int .u8 d]∧Below w.heap.size w wr∧w.heap.size+2≤wr.heap.size) (fun _ i _=>C-(intOf i).toNat)
 case atStart=>exact ⟨0,by omega,rfl,by simpa using World.ownsRow_nil _ _ _ _,(Bk.new w _ _).alloc _,by simpa using Bk.new (w.alloc (.cells #[.int .i64 W,.int .i64 H,.int .i64 C,.slice A n cp] 24)) 27 #[.int .i64 m,.int .u8 a,.int .u8 b,.int .u8 c,.int .u8 d],by go_grown,by simp⟩
 case round =>
  obtain ⟨k,hk,rfl,hown,hKm,hKb,hbr,hsz⟩:=hrel
  obtain ⟨i0,i1,i2,i3⟩:=hKm.cell4
  by_cases hlt:k<C
  ·have hrr:Rd wr B A (P.map (Value.int .u8)):=hr.below' hbr hB
   have hl1:=hKm.lt
   have hl2:=hKb.lt
   have HT:=Lib.hid (show X.take (k+1)=X.take k++[X.getD k 0] by
    have hkx:k<X.length:=by rw [HLEN.out];exact hlt
    rw [List.take_succ_eq_append_getElem hkx,List.getD_eq_getElem?_getD,List.getElem?_eq_getElem hkx];rfl)
   go_wp2_with (first
    | (refine ldB rfl 24 _ rfl hKm rfl Tryz.underlying24 rfl img_size ?_)
    | (refine ldB rfl 27 _ rfl hKb rfl Tryz.underlying27 rfl bord_size ?_)
    | (go_at_call 28;(with_reducible refine (hat k hlt _ hrr (by exact Nat.le_trans hB hbr.size)).mono ?_);rintro e w1 ⟨rfl,hb1⟩;have hown1:=own_below hown hb1 (Nat.le_refl _);have hbr1:=hbr.trans (hb1.mono hbr.size);have hsz1:=Nat.le_trans hsz hb1.size;clear hown)
    | (at_builtin;refine app1 rfl _ _ _ rfl Tryz.underlying22 u8_info rfl (by omega) rfl rfl hown1 hbr1 (by omega) hsz1 rfl ints1 (by omega) (by omega) ?_;intro v' w' hown' hbel' hlt' hgr _;have hge:=own_ge hown1;clear hown1))
   have hKm':=(hKm.nx hb1).grown hgr (fun e=>by have:=hge _ e.symm;omega)
   have hKb':=(hKb.nx hb1).grown hgr (fun e=>by have:=hge _ e.symm;omega)
   refine ⟨⟨k+1,by omega,by go_num,?_,hKm',hKb',hbel',by omega⟩,by simp [intOf];omega⟩
   rw [HT.out,List.map_append]
   exact hown'
  ·obtain rfl:k=C:=by omega
   have hX:X.take k=X:=by rw [List.take_of_length_le];rw [HLEN.out];omega
   rw [hX] at hown
   clear hX
   go_wp2_with fail
   go_returns
   exact ⟨_,rfl,own_base hown (by omega),hbr⟩
end Go.Proofs.YtjbelhpgbcnlmaaGreat
end
section
set_option linter.unusedVariables false
namespace Go.Proofs.YtjbelhpgbcnlmaaGreat
open Go.RowKit
abbrev vwA (v:Value) (k W H mo c0 c1 c2 c3:Int):Array Value:=#[.iface 86 v,.int .i64 k,.int .i64 W,.int .i64 H,.int .i64 mo,.int .u8 c0,.int .u8 c1,.int .u8 c2,.int .u8 c3]
def pxM (m:Im) (mo c0 c1 c2 c3 x y:Int):List Int:=pxl m.px m.W m.H m.C.toNat mo c0 c1 c2 c3 x y
def PxP (m:Im) (mo c0 c1 c2 c3 x y:Int) (w:World) (e:Ending) (w':World):Prop :=
 ∃ (A:Option Addr) (n c:Nat) (L:List Int),e=.returned (.slice A n c)∧L.length=n∧RdL w' w.heap.size A (L.map (Value.int .u8))∧m.C.toNat≤n∧n≤4∧n≤c∧L.take m.C.toNat=pxM m mo c0 c1 c2 c3 x y∧Below w.heap.size w w'
theorem Bk.cell9q {w:World} {g:Nat} {t:TypeId} {v0 v1 v2 v3 v4 v5 v6 v7 v8:Value} (h:Bk w g t #[v0,v1,v2,v3,v4,v5,v6,v7,v8]):w.cell? ⟨g,0,none⟩=some v0∧w.cell? ⟨g,1,none⟩=some v1∧w.cell? ⟨g,2,none⟩=some v2∧w.cell? ⟨g,3,none⟩=some v3∧w.cell? ⟨g,4,none⟩=some v4∧w.cell? ⟨g,5,none⟩=some v5∧w.cell? ⟨g,6,none⟩=some v6∧w.cell? ⟨g,7,none⟩=some v7∧w.cell? ⟨g,8,none⟩=some v8 :=
 ⟨by rw [h.cell];rfl,by rw [h.cell];rfl,by rw [h.cell];rfl,by rw [h.cell];rfl,by rw [h.cell];rfl,by rw [h.cell];rfl,by rw [h.cell];rfl,by rw [h.cell];rfl,by rw [h.cell];rfl⟩
theorem rd_bytes4 {w:World} {g lo:Nat} {t:TypeId} {v0 v1 v2 v3 v4:Value} {c0 c1 c2 c3:Int} (h:Bk w g t #[v0,v1,v2,v3,v4,.int .u8 c0,.int .u8 c1,.int .u8 c2,.int .u8 c3]) (hlo:lo≤g):RdL w lo (some ⟨g,5,none⟩) ([c0,c1,c2,c3].map (Value.int .u8)):=by
 obtain ⟨_,_,_,_,_,d5,d6,d7,d8⟩:=h.cell9q
 intro k hk
 have hk4:k=0∨k=1∨k=2∨k=3:=by simp at hk;omega
 rcases hk4 with rfl|rfl|rfl|rfl
 ·exact ⟨g,5,rfl,hlo,h.lt,d5⟩
 ·exact ⟨g,5,rfl,hlo,h.lt,d6⟩
 ·exact ⟨g,5,rfl,hlo,h.lt,d7⟩
 ·exact ⟨g,5,rfl,hlo,h.lt,d8⟩
set_option maxRecDepth 100000 in
set_option maxHeartbeats 8000000 in
theorem vpix_any {ims:List Im} {A:Option Addr} {n c lo:Nat} {w:World} (hn:ims.length=n) (hA:ImsAt w lo A ims) (k:Nat) (hk:k<ims.length) (hck:checkC ims[k].W ims[k].H ims[k].C ims[k].px.length=0) (mo c0 c1 c2 c3 x y:Int)
 (hx:-9223372036854775808<x∧x≤9223372036854775807) (hy:-9223372036854775808<y∧y≤9223372036854775807) :
 Calls Tryz.prog 100 #[.agg (vwA (.slice A n c) k ims[k].W ims[k].H mo c0 c1 c2 c3),.int .i64 x,.int .i64 y] w (PxP ims[k] mo c0 c1 c2 c3 x y w):=by
 obtain ⟨hf,hl⟩:=ck_parts hck
 obtain ⟨hc,hw1,hw2,hh1,hh2,hp⟩:=fitsC_ok hf
 have hX:=fun w'=>index_any mo x ims[k].W w' hx.1 hx.2 (by omega)
 have hY:=fun w'=>index_any mo y ims[k].H w' hy.1 hy.2 (by omega)
 have hR:=fun (w':World) (hb:Below w.heap.size w w') (x' y':Int)=>read_in (c:=c) hn (hA.nx hb (Nat.le_refl _)) k hk x' y' hck
 have hb0:=(Below.refl w.heap.size w).alloc (Nat.le_refl _) (.cells (vwA (.slice A n c) k ims[k].W ims[k].H mo c0 c1 c2 c3) 158)
 have hK:=Bk.new w 158 (vwA (.slice A n c) k ims[k].W ims[k].H mo c0 c1 c2 c3)
 clear hA hx hy
 generalize ims[k]=m at *
 clear hk
 have hcn:((m.C.toNat:Nat):Int)=m.C:=by omega
 have hc4:m.C.toNat≤4:=by omega
 by_cases hok:pOk m.W m.H mo x y=true
 ·have HP:=Lib.hid (show pxM m mo c0 c1 c2 c3 x y=pxB m (idx mo x m.W).1 (idx mo y m.H).1 by
   unfold pxM pxl pxB;rw [if_pos hok];unfold pAt;rw [hcn])
  have HL:=Lib.hid (show (pxM m mo c0 c1 c2 c3 x y).length=m.C.toNat from pxl_len (n:=m.px.length) rfl (by rw [hl,hcn]) ⟨hw1,hw2⟩ ⟨hh1,hh2⟩ hc4)
  unfold pOk at hok
  simp only [Bool.and_eq_true] at hok
  obtain ⟨ho1,ho2⟩:=hok
  have hxb:=idx_bd ho1
  have hyb:=idx_bd ho2
  obtain ⟨u,hu⟩:∃ u,(idx mo x m.W).1=u:=⟨_,rfl⟩
  obtain ⟨v,hv⟩:∃ v,(idx mo y m.H).1=v:=⟨_,rfl⟩
  have eX:idx mo x m.W=(u,true):=Prod.ext hu ho1
  have eY:idx mo y m.H=(v,true):=Prod.ext hv ho2
  rw [eX] at hX hxb HP
  rw [eY] at hY hyb HP
  simp only at hxb hyb HP
  replace hR:=fun (w':World) (hb:Below w.heap.size w w')=>hR w' hb u v hxb hyb
  clear hu hv ho1 ho2 eX eY hxb hyb hf hl hc hp hck
  have hM:=fun (v:Value) (w:World)=>me_read v w
  generalize m.W=W at *
  generalize m.H=H at *
  obtain ⟨d0,d1,d2,d3,d4,d5,d6,d7,d8⟩:=hK.cell9q
  go_enter Tryz.func100,Tryz.ntmps100
  go_wp2_with (first
   | (go_at_call 178;(with_reducible refine (hX _).mono ?_);rintro e w1 ⟨rfl,hb1⟩;have hK1:=hK.nx hb1;have hB1:=hb0.trans (hb1.mono hb0.size);obtain ⟨d0,d1,d2,d3,d4,d5,d6,d7,d8⟩:=hK1.cell9q)
   | (go_at_call 178;(with_reducible refine (hY _).mono ?_);rintro e w2 ⟨rfl,hb2⟩;have hK2:=hK1.nx hb2;have hB2:=hB1.trans (hb2.mono hB1.size);obtain ⟨d0,d1,d2,d3,d4,d5,d6,d7,d8⟩:=hK2.cell9q)
   | (go_at_call 371;(with_reducible refine (hR _ hB2).mono ?_);rintro e w3 ⟨s3,rfl,ho3,hb3⟩))
  go_returns
  obtain ⟨A3,c3',rfl,hc3,hm3,_,hl3⟩:=own_form ho3
  have hr3:=(RdL.of_own ho3).less hB2.size
  rw [← HP.out] at hr3 hc3 ho3
  rw [HL.out] at hc3
  refine ⟨A3,(pxB m u v).length,c3',pxB m u v,rfl,rfl,?_,?_,?_,?_,?_,hB2.trans (hb3.mono hB2.size)⟩
  ·rw [← HP.out];exact hr3
  ·rw [← HP.out,HL.out];exact Nat.le_refl _
  ·rw [← HP.out,HL.out];exact hc4
  ·rw [← HP.out,HL.out];exact hc3
  ·rw [← HP.out,List.take_of_length_le (by rw [HL.out];exact Nat.le_refl _)]
 ·have HP:=Lib.hid (show pxM m mo c0 c1 c2 c3 x y=[c0,c1,c2,c3].take m.C.toNat by
   unfold pxM pxl;rw [if_neg hok])
  have hxy:(idx mo x m.W).2=false∨((idx mo x m.W).2=true∧(idx mo y m.H).2=false):=by
   unfold pOk at hok
   cases h1:(idx mo x m.W).2
   ·exact .inl rfl
   ·right
    refine ⟨rfl,?_⟩
    cases h2:(idx mo y m.H).2
    ·rfl
    ·rw [h1,h2] at hok;simp at hok
  clear hok hR hf hl hc hp hck
  obtain ⟨u,hu⟩:∃ u,(idx mo x m.W).1=u:=⟨_,rfl⟩
  obtain ⟨v,hv⟩:∃ v,(idx mo y m.H).1=v:=⟨_,rfl⟩
  obtain ⟨o2,ho2'⟩:∃ o2,(idx mo y m.H).2=o2:=⟨_,rfl⟩
  have eY:idx mo y m.H=(v,o2):=Prod.ext hv ho2'
  rcases hxy with ho1|⟨ho1,ho2⟩
  ·have eX:idx mo x m.W=(u,false):=Prod.ext hu ho1
   rw [eX] at hX
   rw [eY] at hY
   clear hu hv ho1 ho2' eX eY
   generalize m.W=W at *
   generalize m.H=H at *
   obtain ⟨d0,d1,d2,d3,d4,d5,d6,d7,d8⟩:=hK.cell9q
   go_enter Tryz.func100,Tryz.ntmps100
   go_wp2_with (first
    | (go_at_call 178;(with_reducible refine (hX _).mono ?_);rintro e w1 ⟨rfl,hb1⟩;have hK1:=hK.nx hb1;have hB1:=hb0.trans (hb1.mono hb0.size);obtain ⟨d0,d1,d2,d3,d4,d5,d6,d7,d8⟩:=hK1.cell9q)
    | (go_at_call 178;(with_reducible refine (hY _).mono ?_);rintro e w2 ⟨rfl,hb2⟩;have hK2:=hK1.nx hb2;have hB2:=hB1.trans (hb2.mono hB1.size);obtain ⟨d0,d1,d2,d3,d4,d5,d6,d7,d8⟩:=hK2.cell9q))
   go_returns
   exact ⟨some ⟨w.heap.size,5,none⟩,4,4,[c0,c1,c2,c3],rfl,rfl,rd_bytes4 hK2 (Nat.le_refl _),hc4,Nat.le_refl _,Nat.le_refl _,HP.out.symm,hB2⟩
  ·have eX:idx mo x m.W=(u,true):=Prod.ext hu ho1
   rw [ho2] at ho2'
   subst ho2'
   rw [eX] at hX
   rw [eY] at hY
   clear hu hv ho1 ho2 eX eY
   generalize m.W=W at *
   generalize m.H=H at *
   obtain ⟨d0,d1,d2,d3,d4,d5,d6,d7,d8⟩:=hK.cell9q
   go_enter Tryz.func100,Tryz.ntmps100
   go_wp2_with (first
    | (go_at_call 178;(with_reducible refine (hX _).mono ?_);rintro e w1 ⟨rfl,hb1⟩;have hK1:=hK.nx hb1;have hB1:=hb0.trans (hb1.mono hb0.size);obtain ⟨d0,d1,d2,d3,d4,d5,d6,d7,d8⟩:=hK1.cell9q)
    | (go_at_call 178;(with_reducible refine (hY _).mono ?_);rintro e w2 ⟨rfl,hb2⟩;have hK2:=hK1.nx hb2;have hB2:=hB1.trans (hb2.mono hB1.size);obtain ⟨d0,d1,d2,d3,d4,d5,d6,d7,d8⟩:=hK2.cell9q))
   go_returns
   exact ⟨some ⟨w.heap.size,5,none⟩,4,4,[c0,c1,c2,c3],rfl,rfl,rd_bytes4 hK2 (Nat.le_refl _),hc4,Nat.le_refl _,Nat.le_refl _,HP.out.symm,hB2⟩
end Go.Proofs.YtjbelhpgbcnlmaaGreat
end
section
set_option linter.unusedVariables false
namespace Go.Proofs.YtjbelhpgbcnlmaaGreat
open Go.RowKit
theorem eql_get (F:Fn) (bs fr:Array Value) (w:World):(binOp .eql 156 (.func F bs fr) .nilFunc).run Tryz.prog w=.ok (.bool false) w:=by
 first | kernel_rfl|rfl
theorem co1_u8:(Tryz.prog.info? 5).map (·.size)=some 1:=by kernel_rfl
abbrev getV (v:Value) (k W H mo c0 c1 c2 c3:Int):Value:=.func (.func 100) #[.agg (vwA v k W H mo c0 c1 c2 c3)] #[]
theorem take_splice {L:List Int} {C n:Nat} (h1:C≤n) (hl:L.length=n):splice (List.replicate C (Value.int .u8 0)) 0 ((L.take C).map (Value.int .u8))=(L.take C).map (Value.int .u8):=by
 have h2:((L.take C).map (Value.int .u8)).length=C:=by simp;omega
 unfold splice
 simp
 omega
theorem rd_add {w:World} {B:Nat} {A:Option Addr} {xs:List Value} (h:Rd w B A xs) (k:Nat) (h0:0<(xs.take k).length):∃ ad,A=some ad∧∀ j v,(xs.take k)[j]?=some v→w.cell? (ad.add j)=some v:=by
 have hx:0<xs.length:=by rw [List.length_take] at h0;omega
 obtain ⟨b,o,rfl,_,_⟩:=h.get 0 hx
 refine ⟨_,rfl,fun j v hj=>?_⟩
 obtain ⟨hjl,hju⟩:=List.getElem?_eq_some_iff.1 hj
 have hjx:j<xs.length:=by simp at hjl;omega
 obtain ⟨b',o',e,_,hc⟩:=h.get j hjx
 injection e with e;injection e with e1 e2
 subst e1;subst e2
 rw [addo,hc,← hju]
 simp
set_option maxRecDepth 100000 in
set_option maxHeartbeats 8000000 in
theorem nearBy_any {ims:List Im} {A:Option Addr} {n c lo:Nat} {w:World} (hn:ims.length=n) (hA:ImsAt w lo A ims) (k:Nat) (hk:k<ims.length) (hck:checkC ims[k].W ims[k].H ims[k].C ims[k].px.length=0) (mo c0 c1 c2 c3 u v:Int) (C:Nat) (hC:ims[k].C=C)
 (hu:-70368744177664≤u∧u≤70368744177664) (hv:-70368744177664≤v∧v≤70368744177664) :
 Calls Tryz.prog 83 #[getV (.slice A n c) k ims[k].W ims[k].H mo c0 c1 c2 c3,.int .i64 C,.int .i64 u,.int .i64 v] w (OwnU (pxM ims[k] mo c0 c1 c2 c3 ((u+32768)/65536) ((v+32768)/65536)) w):=by
 obtain ⟨hf,hl⟩:=ck_parts hck
 obtain ⟨hc,hw1,hw2,hh1,hh2,hp⟩:=fitsC_ok hf
 have hct:ims[k].C.toNat=C:=by omega
 have HLn:=Lib.hid (show (pxM ims[k] mo c0 c1 c2 c3 ((u+32768)/65536) ((v+32768)/65536)).length=C from (pxl_len (n:=ims[k].px.length) rfl (by rw [hl];rw [show ((ims[k].C.toNat:Nat):Int)=ims[k].C by omega]) ⟨hw1,hw2⟩ ⟨hh1,hh2⟩ (by omega)).trans hct)
 have hP:=fun (w':World) (hb:Below w.heap.size w w')=>vpix_any (c:=c) hn (hA.nx hb (Nat.le_refl _)) k hk hck mo c0 c1 c2 c3 ((u+32768)/65536) ((v+32768)/65536) ⟨by omega,by omega⟩ ⟨by omega,by omega⟩
 have iu:inF u=true:=inF_iff.2 hu
 have iv:inF v=true:=inF_iff.2 hv
 have hin:=fun (w':World)=>near_in u w'
 have hin2:=fun (w':World)=>near_in v w'
 rw [iu] at hin
 rw [iv] at hin2
 have hx1:=fun (w':World)=>near_index u w' hu.1 hu.2
 have hx2:=fun (w':World)=>near_index v w' hv.1 hv.2
 have hmk:=fun W=>run_make1 (P:=Tryz.prog) Tryz.underlying22 u8_info rfl (C:Int) C rfl (by omega) (by omega) W
 have hC1:¬((C:Int)<1):=by omega
 have hc4:C≤4:=by omega
 clear hf hl hp hu hv iu iv
 generalize (u+32768)/65536=x at *
 generalize (v+32768)/65536=y at *
 generalize ims[k]=m at *
 have HCT:=Lib.hid hct
 have hq:=eql_get (.func 100) #[.agg (vwA (.slice A n c) k m.W m.H mo c0 c1 c2 c3)] #[]
 have hb0:=(Below.refl w.heap.size w).alloc (Nat.le_refl _) (.cells (Array.replicate C (.int .u8 0)) 5)
 clear hct hC hc hck hw1 hw2 hh1 hh2 hA hn
 generalize m.W=W at *
 generalize m.H=H at *
 have hK0:=Bk.new w 5 (Array.replicate C (.int .u8 0))
 go_enter Tryz.func83,Tryz.ntmps83
 go_wp2_with (first
  | (go_at_call 154;(with_reducible refine (hin _).mono ?_);rintro e w1 ⟨rfl,rfl⟩)
  | (go_at_call 154;(with_reducible refine (hin2 _).mono ?_);rintro e w1 ⟨rfl,rfl⟩)
  | (go_at_call 155;(with_reducible refine (hx1 _).mono ?_);rintro e w1 ⟨rfl,rfl⟩)
  | (go_at_call 155;(with_reducible refine (hx2 _).mono ?_);rintro e w1 ⟨rfl,rfl⟩)
  | (go_at_call 100;(with_reducible refine (hP _ hb0).mono ?_);rintro e w3 ⟨A3,n3,c3',L3,rfl,hL3,hr3,hC3,hn3,hc3,ht3,hb3⟩;rw [HCT.out] at hC3 ht3;have hK3:=hK0.nx hb3;have hb3':=hb0.trans (hb3.mono hb0.size);have hK3':w3.heap[w.heap.size]?=some (.cells (List.replicate C (.int .u8 0)).toArray 5 (0,0)):=(by rw [List.toArray_replicate];exact hK3);have hcl:((L3.map (Value.int .u8)).take C).length=C:=(by simp;omega))
  | (refine wpList_copy_splice rfl _ _ _ _ rfl 5 Tryz.underlying22 co1_u8 (some ⟨w.heap.size,0,none⟩) A3 C C n3 c3' rfl rfl w.heap.size 0 (List.replicate C (.int .u8 0)) 5 hK3' ((L3.map (Value.int .u8)).take C) (by rw [hcl];exact (Nat.min_eq_right hC3).symm) (fun h=>⟨rfl,rd_add hr3.rd C h⟩) (by rw [hcl];simp) (fun v hv=>by rw [← List.map_take] at hv;exact intsL _ v hv) w.heap.size w hb3' (Nat.le_refl _) ?_;intro w4 hK4 hb4))
 ·skip
  go_returns
  have hK5:Bk w4 w.heap.size 5 (((pxM m mo c0 c1 c2 c3 x y).map (Value.int .u8)).toArray):=by
   have:=hK4.out
   rw [← List.map_take,take_splice hC3 hL3,ht3] at this
   exact this
  refine ⟨_,rfl,?_,hb4⟩
  rw [HLn.out]
  simpa [HLn.out] using own_of_Bk (base:=w.heap.size) hK5 C (by simp [HLn.out]) (by omega) (Nat.le_refl _)
end Go.Proofs.YtjbelhpgbcnlmaaGreat
end
section
set_option linter.unusedVariables false
namespace Go.Proofs.YtjbelhpgbcnlmaaGreat
open Go.RowKit
theorem getD_lt {l:List Int} {k:Nat} (h:k<l.length):l[k]=l.getD k 0:=by rw [List.getD_eq_getElem?_getD,List.getElem?_eq_getElem h];rfl
set_option maxRecDepth 100000 in
set_option maxHeartbeats 4000000 in
theorem wmix_any (a b:List Int) (A A':Option Addr) (n c c':Nat) (w:World) {B B':Nat} {M:Int} (ha:a.length=n) (hb:b.length=n) (hn:n≤16) (hA:Rd w B A (a.map (Value.int .i64))) (hA':Rd w B' A' (b.map (Value.int .u8))) (hM:0≤M) (hM2:M≤288230376151711744) (h:∀ k,-M≤a.getD k 0*b.getD k 0∧a.getD k 0*b.getD k 0≤M) (hv:∀ k,0≤b.getD k 0∧b.getD k 0≤255) :
 Calls Tryz.prog 221 #[.slice A n c,.slice A' n c'] w fun e w'=>e=.returned (.int .i64 (dotK a b n))∧Below w.heap.size w w':=by
 have hD:=fun k=>dotK_bd hM h k
 have HA:=Lib.hid ha
 have HB:=Lib.hid hb
 have HV:=Lib.hid hv
 have HP:=Lib.hid h
 have HDD:=Lib.hid hD
 clear ha hb h hv hD
 go_enter Tryz.func221,Tryz.ntmps221
 go_wp2_with fail
 go_loopw [5,12] (fun s i wr=>∃ k:Nat,k≤n∧i=.int .i64 k∧s=.int .i64 (dotK a b k)∧∃ m,wr=w.drewN m) (fun _ i _=>n-(intOf i).toNat)
 case atStart=>exact ⟨0,by omega,rfl,rfl,0,rfl⟩
 case round =>
  obtain ⟨k,hk,rfl,rfl,m,rfl⟩:=hrel
  by_cases hlt:k<n
  ·have hka:k<(a.map (Value.int .i64)).length:=by rw [List.length_map,HA.out];exact hlt
   have hkb:k<(b.map (Value.int .u8)).length:=by rw [List.length_map,HB.out];exact hlt
   obtain ⟨b1,o1,rfl,_,hc1⟩:=hA.get k hka
   obtain ⟨b2,o2,rfl,_,hc2⟩:=hA'.get k hkb
   rw [List.getElem_map,getD_lt] at hc1 hc2
   have hdk:=HDD.out k
   have hpk:=HP.out k
   have hvk:=HV.out k
   have HS:Hid (dotK a b (k+1)=dotK a b k+a.getD k 0*b.getD k 0):=rfl
   have hkM:(k:Int)*M≤15*M:=Int.mul_le_mul_of_nonneg_right (by omega) hM
   generalize a.getD k 0=x at *
   generalize b.getD k 0=y at *
   obtain ⟨z,hz⟩:∃ z,x*y=z:=⟨_,rfl⟩
   rw [hz] at hpk HS
   have v1:wrap64 (x*y)=z:=by rw [hz];exact IntWalk.wrap64_in _ ⟨by omega,by omega⟩
   generalize dotK a b k=d at *
   have v3:wrap64 y=y:=IntWalk.wrap64_in _ ⟨by omega,by omega⟩
   have v2:wrap64 (d+z)=d+z:=IntWalk.wrap64_in _ ⟨by omega,by omega⟩
   clear hz hdk hpk hvk hkM hM hM2
   go_wp2_with fail
   go_quiet (fail)
   go_wp2_with fail
   exact ⟨⟨k+1,by omega,by go_num,by rw [HS.out,v2],_,rfl⟩,by simp [intOf];omega⟩
  ·obtain rfl:k=n:=by omega
   go_wp2_with fail
   go_returns
   exact ⟨rfl,below_drewN (Below.refl _ _) m⟩
end Go.Proofs.YtjbelhpgbcnlmaaGreat
end
