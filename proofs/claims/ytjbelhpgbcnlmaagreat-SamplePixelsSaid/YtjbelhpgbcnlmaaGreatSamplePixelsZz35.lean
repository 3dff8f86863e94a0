/- Several texts in one: Several texts in one: The reference's xform: what is wrong with a transform. The reference's xform: where a place comes from. The signs at four corners are the signs between them: plain. Within an image, and half a pixel around it, each place comes from somewhere, no further than 2^46: plain. -/
import Derived.Test.YtjbelhpgbcnlmaaGreatSamplePixelsZz32
import Derived.Test.YtjbelhpgbcnlmaaGreatSamplePixelsZz33
import Derived.Test.YtjbelhpgbcnlmaaGreatSamplePixelsZz30
import Derived.Test.YtjbelhpgbcnlmaaGreatSamplePixelsZz15
import Derived.Test.YtjbelhpgbcnlmaaGreatSamplePixelsZz34
import Derived.Test.YtjbelhpgbcnlmaaGreatSamplePixelsZz12
section
section
set_option linter.unusedVariables false
namespace Go.Proofs.YtjbelhpgbcnlmaaGreat
open Go.RowKit
set_option maxRecDepth 100000 in
set_option maxHeartbeats 16000000 in
theorem rcheck24 (k:Int) (l:List Int) (A:Option Addr) (n cp:Nat) (W H:Int) (w:World) {B:Nat} (hl:l.length=n) (hn:n≤9223372036854775807) (hr:Rd w B A (l.map (Value.int .i64))) (hB:B≤w.heap.size) (hok:∀ z∈l,-9223372036854775808≤z∧z≤9223372036854775807) :
 Calls Tryz.prog 16 #[xfV k A n cp,.int .i64 W,.int .i64 H] w fun e w'=>e=.returned (.int .i64 (xC k l W H))∧Below w.heap.size w w':=by
 have hb:=(Below.refl w.heap.size w).alloc (Nat.le_refl _) (.cells #[.int .i64 k,.slice A n cp] 32)
 have hBs:=hb.size
 have hrx:=hr.below' hb hB
 have hok':=Lib.hid hok
 by_cases hk:1≤k∧k≤6
 ·rcases sz_cases W H with ⟨hs,s0,s1,s2,s3⟩|⟨hs,hc⟩
  ·have hC:Hid (xC k l W H=xkC k l W H):=by show _=_;unfold xC;rw [if_neg (by simpa using hk),if_neg (by rw [hs];simp)]
   have h18:=rcheck18 l A n cp _ hl hrx
   have h19:=rcheck_any l A n cp W H _ hl hrx (Nat.le_trans hB hBs) hok ⟨by omega,by omega⟩ ⟨by omega,by omega⟩
   have h20:=rcheck20 l A n cp W H _ hl hrx (Nat.le_trans hB hBs)
   have h21:=rcheck21 l A n cp W H _ hl hn hrx (Nat.le_trans hB hBs)
   have h22:=rcheck22 l A n cp _ hl hrx
   have h23:=(tcheck_any l A n cp _ hl hrx).2
   clear hs hok hr hrx hl
   rcases (show k=1∨k=2∨k=3∨k=4∨k=5∨k=6 by omega) with rfl|rfl|rfl|rfl|rfl|rfl
   ·go_enter Tryz.func16,Tryz.ntmps16
    go_wp2_with (go_at_call 50;(with_reducible refine h18.mono ?_);rintro e w1 ⟨rfl,hb1⟩)
    go_returns
    exact ⟨ret_int hC.out.symm,hb.trans (hb1.mono hBs)⟩
   ·go_enter Tryz.func16,Tryz.ntmps16
    go_wp2_with (go_at_call 51;(with_reducible refine h19.mono ?_);rintro e w1 ⟨rfl,hb1⟩)
    go_returns
    exact ⟨ret_int hC.out.symm,hb.trans (hb1.mono hBs)⟩
   ·go_enter Tryz.func16,Tryz.ntmps16
    go_wp2_with (go_at_call 52;(with_reducible refine h20.mono ?_);rintro e w1 ⟨rfl,hb1⟩)
    go_returns
    exact ⟨ret_int hC.out.symm,hb.trans (hb1.mono hBs)⟩
   ·go_enter Tryz.func16,Tryz.ntmps16
    go_wp2_with (go_at_call 53;(with_reducible refine h21.mono ?_);rintro e w1 ⟨rfl,hb1⟩)
    go_returns
    exact ⟨ret_int hC.out.symm,hb.trans (hb1.mono hBs)⟩
   ·go_enter Tryz.func16,Tryz.ntmps16
    go_wp2_with (go_at_call 54;(with_reducible refine h22.mono ?_);rintro e w1 ⟨rfl,rfl⟩)
    go_returns
    exact ⟨ret_int hC.out.symm,hb⟩
   ·go_enter Tryz.func16,Tryz.ntmps16
    go_wp2_with (go_at_call 55;(with_reducible refine h23.mono ?_);rintro e w1 ⟨rfl,rfl⟩)
    go_returns
    exact ⟨ret_int hC.out.symm,hb⟩
  ·have hC:Hid (xC k l W H=30):=by show _=_;unfold xC;rw [if_neg (by simpa using hk),if_pos hs]
   clear hs hok hr hrx hl
   obtain ⟨k1,k2⟩:=hk
   rcases hc with q0|⟨q0,q1⟩|⟨q0,q1,q2⟩|⟨q0,q1,q2,q3⟩
   all_goals
    go_enter Tryz.func16,Tryz.ntmps16
    go_wp2_with fail
    go_returns
    exact ⟨ret_int hC.out.symm,hb⟩
 ·have hC:Hid (xC k l W H=10):=by show _=_;unfold xC;rw [if_pos hk]
  clear hok hr hrx hl
  rcases (show k<1∨(1≤k∧6<k) by omega) with k1|⟨k1,k2⟩
  all_goals
   clear hk
   go_enter Tryz.func16,Tryz.ntmps16
   go_wp2_with fail
   go_returns
   exact ⟨ret_int hC.out.symm,hb⟩
end Go.Proofs.YtjbelhpgbcnlmaaGreat
end
section
set_option linter.unusedVariables false
namespace Go.Proofs.YtjbelhpgbcnlmaaGreat
open Go.RowKit
theorem xC_zero {k:Int} {l:List Int} {W H:Int} (h:xC k l W H=0):(1≤k∧k≤6)∧szH W H=true∧xkC k l W H=0:=by
 unfold xC at h
 by_cases hk:1≤k∧k≤6
 ·rw [if_neg (by simpa using hk)] at h
  cases hs:szH W H
  ·rw [hs,if_pos rfl] at h;cases h
  ·rw [hs,if_neg (by decide)] at h;exact ⟨hk,rfl,h⟩
 ·rw [if_pos hk] at h;cases h
theorem x_no {k:Int} {l:List Int} {px py d:Int} (hk:1≤k∧k≤6) (h:rightH px py d=false):xF k l px py d=0∧xG k l px py d=0∧xE k l px py d=11:=by
 rcases (show k=1∨k=2∨k=3∨k=4∨k=5∨k=6 by omega) with rfl|rfl|rfl|rfl|rfl|rfl
 ·exact ⟨by show afX l px py d=0;unfold afX;simp [h],by show afY l px py d=0;unfold afY;simp [h],by show afE px py d=11;unfold afE;simp [h]⟩
 ·exact ⟨by show atX _ px py d=0;unfold atX;simp [h],by show atY _ px py d=0;unfold atY;simp [h],by show atE _ px py d=11;unfold atE;simp [h]⟩
 ·exact ⟨by show lnF l px py d=0;unfold lnF leIs;simp [h],by show lnG l px py d=0;unfold lnG leIs;simp [h],by show lnE l px py d=11;unfold lnE leIs;simp [h]⟩
 ·exact ⟨by show meU l px py d=0;unfold meU;simp [h],by show meVv l px py d=0;unfold meVv;simp [h],by show meE px py d=11;unfold meE;simp [h]⟩
 ·exact ⟨by show shF l px py d=0;unfold shF;simp [h],by show shG l px py d=0;unfold shG;simp [h],by show afE px py d=11;unfold afE;simp [h]⟩
 ·exact ⟨by show tuF l px py d=0;unfold tuF;simp [h],by show tuG l px py d=0;unfold tuG;simp [h],by show afE px py d=11;unfold afE;simp [h]⟩
set_option maxRecDepth 100000 in
set_option maxHeartbeats 16000000 in
theorem rat24_no (k:Int) (l:List Int) (A:Option Addr) (n cp:Nat) (W H px py d:Int) (w:World) (hC:xC k l W H=0) (hp:rightH px py d=false) :
 Calls Tryz.prog 59 #[xfV k A n cp,.int .i64 px,.int .i64 py,.int .i64 d] w fun e w'=>e=.returned (.tuple #[.int .i64 (xF k l px py d),.int .i64 (xG k l px py d),.int .i64 (xE k l px py d)])∧Below w.heap.size w w':=by
 have hb:=(Below.refl w.heap.size w).alloc (Nat.le_refl _) (.cells #[.int .i64 k,.slice A n cp] 32)
 obtain ⟨e1,e2,e3⟩:=x_no (l:=l) (xC_zero hC).1 hp
 rw [e1,e2,e3]
 clear e1 e2 e3 hC
 go_enter Tryz.func59,Tryz.ntmps59
 go_wp2_with (go_at_call 113;(with_reducible refine (rright_h _ _ _ _).mono ?_);rintro e w' ⟨rfl,rfl⟩;rw [hp])
 go_returns
 exact ⟨rfl,hb⟩
set_option maxRecDepth 100000 in
set_option maxHeartbeats 16000000 in
theorem rat24_1 (l:List Int) (A:Option Addr) (n cp:Nat) (px py d:Int) (w:World) {B:Nat} (hl:l.length=n) (hr:Rd w B A (l.map (Value.int .i64))) (hB:B≤w.heap.size) (hC:afC l=0) (hp:rightH px py d=true) :
 Calls Tryz.prog 59 #[xfV 1 A n cp,.int .i64 px,.int .i64 py,.int .i64 d] w fun e w'=>e=.returned (.tuple #[.int .i64 (rA18 l px py d),.int .i64 (rB18 l px py d),.int .i64 0])∧Below w.heap.size w w':=by
 obtain ⟨hok,hdt⟩:=afC_zero.1 hC
 obtain rfl:n=6:=by rw [← hl];exact hok.len
 have hb:=(Below.refl w.heap.size w).alloc (Nat.le_refl _) (.cells #[.int .i64 1,.slice A 6 cp] 32)
 have hBs:=hb.size
 have h18:=rat18 l A cp px py d _ hok hdt (hr.below' hb hB) (Nat.le_trans hB hBs) hp
 clear hC hl hr hdt hok
 go_enter Tryz.func59,Tryz.ntmps59
 go_wp2_with (first
  | (go_at_call 113;(with_reducible refine (rright_h _ _ _ _).mono ?_);rintro e w' ⟨rfl,rfl⟩;rw [hp])
  | (go_at_call 114;(with_reducible refine h18.mono ?_);rintro e w1 ⟨rfl,hb1⟩))
 go_returns
 exact ⟨rfl,hb.trans (hb1.mono hBs)⟩
set_option maxRecDepth 100000 in
set_option maxHeartbeats 16000000 in
theorem rat24_2n (l:List Int) (A:Option Addr) (n cp:Nat) (W H px py d:Int) (w:World) {B:Nat} (hl:l.length=n) (hr:Rd w B A (l.map (Value.int .i64))) (hB:B≤w.heap.size) (hC:newC l W H=0) (hp:rightH px py d=true) (h0:undR (adK (cf l) 9) px py d=0) :
 Calls Tryz.prog 59 #[xfV 2 A n cp,.int .i64 px,.int .i64 py,.int .i64 d] w fun e w'=>e=.returned (.tuple #[.int .i64 0,.int .i64 0,.int .i64 41])∧Below w.heap.size w w':=by
 have hok:=(newC_zero.1 hC).ok
 obtain rfl:n=9:=by rw [← hl];exact hok.len
 have hb:=(Below.refl w.heap.size w).alloc (Nat.le_refl _) (.cells #[.int .i64 2,.slice A 9 cp] 32)
 have hBs:=hb.size
 have h19:=rat19_none l A cp px py d _ hok (hr.below' hb hB) (Nat.le_trans hB hBs) hp h0
 clear hC hl hr hok h0
 go_enter Tryz.func59,Tryz.ntmps59
 go_wp2_with (first
  | (go_at_call 113;(with_reducible refine (rright_h _ _ _ _).mono ?_);rintro e w' ⟨rfl,rfl⟩;rw [hp])
  | (go_at_call 115;(with_reducible refine h19.mono ?_);rintro e w1 ⟨rfl,hb1⟩))
 go_returns
 exact ⟨rfl,hb.trans (hb1.mono hBs)⟩
set_option maxRecDepth 100000 in
set_option maxHeartbeats 16000000 in
theorem rat24_2 (l:List Int) (A:Option Addr) (n cp:Nat) (W H px py d:Int) (w:World) {B:Nat} (hl:l.length=n) (hr:Rd w B A (l.map (Value.int .i64))) (hB:B≤w.heap.size) (hC:newC l W H=0) (hp:rightH px py d=true) (h0:undR (adK (cf l) 9) px py d≠0) :
 Calls Tryz.prog 59 #[xfV 2 A n cp,.int .i64 px,.int .i64 py,.int .i64 d] w fun e w'=>e=.returned (.tuple #[.int .i64 (atX (adK (cf l) 9) px py d),.int .i64 (atY (adK (cf l) 9) px py d),.int .i64 0])∧Below w.heap.size w w':=by
 have hok:=(newC_zero.1 hC).ok
 obtain rfl:n=9:=by rw [← hl];exact hok.len
 have hb:=(Below.refl w.heap.size w).alloc (Nat.le_refl _) (.cells #[.int .i64 2,.slice A 9 cp] 32)
 have hBs:=hb.size
 have h19:=rat19_some l A cp px py d _ hok (hr.below' hb hB) (Nat.le_trans hB hBs) hp h0
 generalize atX (adK (cf l) 9) px py d=U at *
 generalize atY (adK (cf l) 9) px py d=V at *
 clear hC hl hr hok h0
 go_enter Tryz.func59,Tryz.ntmps59
 go_wp2_with (first
  | (go_at_call 113;(with_reducible refine (rright_h _ _ _ _).mono ?_);rintro e w' ⟨rfl,rfl⟩;rw [hp])
  | (go_at_call 115;(with_reducible refine h19.mono ?_);rintro e w1 ⟨rfl,hb1⟩))
 go_returns
 exact ⟨rfl,hb.trans (hb1.mono hBs)⟩
set_option maxRecDepth 100000 in
set_option maxHeartbeats 16000000 in
theorem rat24_3n (l:List Int) (A:Option Addr) (n cp:Nat) (W H px py d:Int) (w:World) {B:Nat} (hl:l.length=n) (hr:Rd w B A (l.map (Value.int .i64))) (hB:B≤w.heap.size) (hC:leC l W H=0) (hp:rightH px py d=true) (hf:farL l px py d=true) :
 Calls Tryz.prog 59 #[xfV 3 A n cp,.int .i64 px,.int .i64 py,.int .i64 d] w fun e w'=>e=.returned (.tuple #[.int .i64 0,.int .i64 0,.int .i64 11])∧Below w.heap.size w w':=by
 have hok:=leC_zero.1 hC
 obtain rfl:n=7:=by rw [← hl];exact hok.len
 have hb:=(Below.refl w.heap.size w).alloc (Nat.le_refl _) (.cells #[.int .i64 3,.slice A 7 cp] 32)
 have hBs:=hb.size
 have h20:=rat20_no l A cp px py d _ hok.len (rgL_bd hok.rg) (hr.below' hb hB) hp hf
 clear hC hl hr hok hf
 go_enter Tryz.func59,Tryz.ntmps59
 go_wp2_with (first
  | (go_at_call 113;(with_reducible refine (rright_h _ _ _ _).mono ?_);rintro e w' ⟨rfl,rfl⟩;rw [hp])
  | (go_at_call 116;(with_reducible refine h20.mono ?_);rintro e w1 ⟨rfl,hb1⟩))
 go_returns
 exact ⟨rfl,hb.trans (hb1.mono hBs)⟩
set_option maxRecDepth 100000 in
set_option maxHeartbeats 16000000 in
theorem rat24_3 (l:List Int) (A:Option Addr) (n cp:Nat) (W H px py d:Int) (w:World) {B:Nat} (hl:l.length=n) (hr:Rd w B A (l.map (Value.int .i64))) (hB:B≤w.heap.size) (hC:leC l W H=0) (hp:rightH px py d=true) (hf:farL l px py d=false) :
 Calls Tryz.prog 59 #[xfV 3 A n cp,.int .i64 px,.int .i64 py,.int .i64 d] w fun e w'=>e=.returned (.tuple #[.int .i64 (leU l px py d),.int .i64 (leV l px py d),.int .i64 0])∧Below w.heap.size w w':=by
 have hok:=leC_zero.1 hC
 obtain rfl:n=7:=by rw [← hl];exact hok.len
 have hb:=(Below.refl w.heap.size w).alloc (Nat.le_refl _) (.cells #[.int .i64 3,.slice A 7 cp] 32)
 have hBs:=hb.size
 have h20:=rat20_yes l A cp px py d _ hok.len (rgL_bd hok.rg) (hr.below' hb hB) hp hf
 generalize leU l px py d=U at *
 generalize leV l px py d=V at *
 clear hC hl hr hok hf
 go_enter Tryz.func59,Tryz.ntmps59
 go_wp2_with (first
  | (go_at_call 113;(with_reducible refine (rright_h _ _ _ _).mono ?_);rintro e w' ⟨rfl,rfl⟩;rw [hp])
  | (go_at_call 116;(with_reducible refine h20.mono ?_);rintro e w1 ⟨rfl,hb1⟩))
 go_returns
 exact ⟨rfl,hb.trans (hb1.mono hBs)⟩
set_option maxRecDepth 100000 in
set_option maxHeartbeats 16000000 in
theorem rat24_6 (l:List Int) (A:Option Addr) (n cp:Nat) (px py d:Int) (w:World) {B:Nat} (hl:l.length=n) (hr:Rd w B A (l.map (Value.int .i64))) (hB:B≤w.heap.size) (hC:tuC l=0) (hp:rightH px py d=true) :
 Calls Tryz.prog 59 #[xfV 6 A n cp,.int .i64 px,.int .i64 py,.int .i64 d] w fun e w'=>e=.returned (.tuple #[.int .i64 (65536*tuPx l px py d/d),.int .i64 (65536*tuPy l px py d/d),.int .i64 0])∧Below w.heap.size w w':=by
 have hok:=tuC_zero.1 hC
 obtain rfl:n=3:=by rw [← hl];exact hok.len
 have hb:=(Below.refl w.heap.size w).alloc (Nat.le_refl _) (.cells #[.int .i64 6,.slice A 3 cp] 32)
 have h23:=rat23 l A cp px py d _ hok (hr.below' hb hB) hp
 generalize 65536*tuPx l px py d/d=U at *
 generalize 65536*tuPy l px py d/d=V at *
 clear hC hl hr hok
 go_enter Tryz.func59,Tryz.ntmps59
 go_wp2_with (first
  | (go_at_call 113;(with_reducible refine (rright_h _ _ _ _).mono ?_);rintro e w' ⟨rfl,rfl⟩;rw [hp])
  | (go_at_call 120;(with_reducible refine h23.mono ?_);rintro e w1 ⟨rfl,rfl⟩))
 go_returns
 exact ⟨rfl,hb⟩
end Go.Proofs.YtjbelhpgbcnlmaaGreat
end
end
section
set_option linter.unusedVariables false
namespace Go.Proofs.YtjbelhpgbcnlmaaGreat
open Go.RowKit
theorem rightH_corner {W H:Int} (hW:1≤W∧W≤32768) (hH:1≤H∧H≤32768):rightH (-1) (-1) 2=true∧rightH (2*W-1) (-1) 2=true∧rightH (-1) (2*H-1) 2=true∧rightH (2*W-1) (2*H-1) 2=true:=by
 simp only [rightH_iff];omega
theorem lin_ge {p d u a b:Int} (h1:a*d≤u) (h2:u≤b*d):p*a*d≤p*u∨p*b*d≤p*u:=by
 by_cases hp:0≤p
 ·left
  have:=Int.mul_nonneg hp (Int.sub_nonneg.2 h1)
  grind
 ·right
  have:=Int.mul_nonneg (by omega:0≤-p) (Int.sub_nonneg.2 h2)
  grind
theorem lin_le {p d u a b:Int} (h1:a*d≤u) (h2:u≤b*d):p*u≤p*a*d∨p*u≤p*b*d:=by
 by_cases hp:0≤p
 ·right
  have:=Int.mul_nonneg hp (Int.sub_nonneg.2 h2)
  grind
 ·left
  have:=Int.mul_nonneg (by omega:0≤-p) (Int.sub_nonneg.2 h1)
  grind
theorem box_pos {p q r d u v a b c e:Int} (hd:1≤d) (hu:a*d≤u∧u≤b*d) (hv:c*d≤v∧v≤e*d)
 (h1:0<p*a+q*c+r) (h2:0<p*b+q*c+r) (h3:0<p*a+q*e+r) (h4:0<p*b+q*e+r):0<p*u+q*v+r*d:=by
 have k1:=Int.mul_pos h1 (by omega:0<d)
 have k2:=Int.mul_pos h2 (by omega:0<d)
 have k3:=Int.mul_pos h3 (by omega:0<d)
 have k4:=Int.mul_pos h4 (by omega:0<d)
 rcases lin_ge (p:=p) hu.1 hu.2 with m|m <;> rcases lin_ge (p:=q) hv.1 hv.2 with n|n <;> grind
theorem box_neg {p q r d u v a b c e:Int} (hd:1≤d) (hu:a*d≤u∧u≤b*d) (hv:c*d≤v∧v≤e*d)
 (h1:p*a+q*c+r<0) (h2:p*b+q*c+r<0) (h3:p*a+q*e+r<0) (h4:p*b+q*e+r<0):p*u+q*v+r*d<0:=by
 have:=box_pos (p:=-p) (q:=-q) (r:=-r) hd hu hv (by grind) (by grind) (by grind) (by grind)
 grind
theorem mn4_pos {a b c d:Int}:0<mn4 a b c d ↔ 0<a∧0<b∧0<c∧0<d:=by unfold mn4;omega
theorem mx4_neg {a b c d:Int}:mx4 a b c d<0 ↔ a<0∧b<0∧c<0∧d<0:=by unfold mx4;omega
theorem signs_plain {a:Nat→Int} {W H:Int} (hW:1≤W∧W≤32768) (hH:1≤H∧H≤32768) (hs:sgH a W H=true) :
 (∀ x y d:Int,rightH x y d=true→-d≤2*x→2*x≤(2*W-1)*d→-d≤2*y→2*y≤(2*H-1)*d→0<undR a x y d) ∨
 (∀ x y d:Int,rightH x y d=true→-d≤2*x→2*x≤(2*W-1)*d→-d≤2*y→2*y≤(2*H-1)*d→undR a x y d<0):=by
 obtain ⟨r1,r2,r3,r4⟩:=rightH_corner hW hH
 have h0:=hs
 unfold sgH at h0
 rw [Bool.or_eq_true,decide_eq_true_iff,decide_eq_true_iff,mn4_pos,mx4_neg] at h0
 simp only [undR,r1,r2,r3,r4,if_true] at h0
 rcases h0 with ⟨h1,h2,h3,h4⟩|⟨h1,h2,h3,h4⟩
 ·left
  intro x y d hr x0 x1 y0 y1
  have hd:=(rightH_iff.1 hr).2.2.1
  have:=box_pos (p:=a 6) (q:=a 7) (r:=2*a 8) (d:=d) (u:=2*x) (v:=2*y) (a:=-1) (b:=2*W-1) (c:=-1) (e:=2*H-1) hd ⟨by omega,x1⟩ ⟨by omega,y1⟩ (by grind) (by grind) (by grind) (by grind)
  simp only [undR,hr,if_true]
  grind
 ·right
  intro x y d hr x0 x1 y0 y1
  have hd:=(rightH_iff.1 hr).2.2.1
  have:=box_neg (p:=a 6) (q:=a 7) (r:=2*a 8) (d:=d) (u:=2*x) (v:=2*y) (a:=-1) (b:=2*W-1) (c:=-1) (e:=2*H-1) hd ⟨by omega,x1⟩ ⟨by omega,y1⟩ (by grind) (by grind) (by grind) (by grind)
  simp only [undR,hr,if_true]
  grind
end Go.Proofs.YtjbelhpgbcnlmaaGreat
end
section
set_option linter.unusedVariables false
namespace Go.Proofs.YtjbelhpgbcnlmaaGreat
open Go.RowKit
theorem cutF_bd (z:Int):-70368744177664≤cutF z∧cutF z≤70368744177664:=by unfold cutF;split <;> (try split) <;> omega
theorem axF_mono {p p' d d' m f:Int} (hf:0<f) (h:65536*p/d≤65536*p'/d'):axF p d m f≤axF p' d' m f:=by
 unfold axF
 exact Int.ediv_le_ediv hf (by omega)
theorem ax_lo {p d:Int} (hd:1≤d) (h:-d≤2*p):65536*(-1)/2≤65536*p/d:=by
 have e:(65536*(-1)/2:Int)=-32768:=by decide
 rw [e]
 exact Int.le_ediv_of_mul_le (by omega) (by omega)
theorem ax_hi {p d W:Int} (hd:1≤d) (h:2*p≤(2*W-1)*d):65536*p/d≤65536*(2*W-1)/2:=by
 have e:65536*(2*W-1)/2=32768*(2*W-1):=by omega
 rw [e]
 refine Int.ediv_le_of_le_mul (by omega) ?_
 have h3:=Int.mul_le_mul_of_nonneg_left h (show (0:Int)≤32768 by decide)
 have e2:32768*((2*W-1)*d)=32768*(2*W-1)*d:=by rw [Int.mul_assoc]
 omega
theorem far_in {l:List Int} {W H x y d:Int} (h:LeOk l W H) (hd:1≤d) (x0:-d≤2*x) (x1:2*x≤(2*W-1)*d) (y0:-d≤2*y) (y1:2*y≤(2*H-1)*d):farL l x y d=false:=by
 have hf:=(rgL_bd h.rg).f
 obtain ⟨a,b⟩:=farL_no h.f1
 obtain ⟨a',b'⟩:=farL_no h.f2
 unfold farL
 rw [Bool.or_eq_false_iff,Bool.not_eq_false',Bool.not_eq_false',inH_iff,inH_iff]
 have e1:=axF_mono (m:=cf l 0) (f:=cf l 2) (by omega) (ax_lo hd x0)
 have e2:=axF_mono (m:=cf l 0) (f:=cf l 2) (by omega) (ax_hi hd x1)
 have e3:=axF_mono (m:=cf l 1) (f:=cf l 2) (by omega) (ax_lo hd y0)
 have e4:=axF_mono (m:=cf l 1) (f:=cf l 2) (by omega) (ax_hi hd y1)
 unfold leX at a a'
 unfold leY at b b'
 exact ⟨⟨by omega,by omega⟩,⟨by omega,by omega⟩⟩
theorem plc_bd (a b:Int):-70368744177664≤plc a b∧plc a b≤70368744177664:=cutF_bd _
theorem ite_bd {c:Prop} [Decidable c] {a b m:Int} (h:-m≤a∧a≤m) (h2:-m≤b∧b≤m):-m≤(if c then a else b)∧(if c then a else b)≤m:=by split <;> assumption
theorem in_plain {k:Int} {l:List Int} {W H x y d:Int} (hc:xC k l W H=0) (hr:rightH x y d=true) (x0:-d≤2*x) (x1:2*x≤(2*W-1)*d) (y0:-d≤2*y) (y1:2*y≤(2*H-1)*d) :
 xE k l x y d=0∧(-70368744177664≤xF k l x y d∧xF k l x y d≤70368744177664)∧(-70368744177664≤xG k l x y d∧xG k l x y d≤70368744177664):=by
 obtain ⟨hk,hs,hx⟩:=xC_zero hc
 obtain ⟨hW,hH⟩:=szH_iff.1 hs
 obtain ⟨i0,i1,d0,d1⟩:=rightH_iff.1 hr
 rcases (show k=1∨k=2∨k=3∨k=4∨k=5∨k=6 by omega) with rfl|rfl|rfl|rfl|rfl|rfl
 ·refine ⟨?_,?_,?_⟩
  ·show afE x y d=0
   unfold afE;rw [if_pos hr]
  ·show _≤afX l x y d∧afX l x y d≤_
   unfold afX;exact ite_bd (plc_bd _ _) (by omega)
  ·show _≤afY l x y d∧afY l x y d≤_
   unfold afY;exact ite_bd (plc_bd _ _) (by omega)
 ·have hz:newC l W H=0:=hx
  have hu:undR (adK (cf l) 9) x y d≠0:=by
   rcases signs_plain hW hH (newC_zero.1 hz).sg with h|h
   ·have:=h x y d hr x0 x1 y0 y1;omega
   ·have:=h x y d hr x0 x1 y0 y1;omega
  refine ⟨?_,?_,?_⟩
  ·show atE (adK (cf l) 9) x y d=0
   unfold atE;rw [if_pos hr,if_pos hu]
  ·show _≤atX (adK (cf l) 9) x y d∧atX (adK (cf l) 9) x y d≤_
   unfold atX;exact ite_bd (plc_bd _ _) (by omega)
  ·show _≤atY (adK (cf l) 9) x y d∧atY (adK (cf l) 9) x y d≤_
   unfold atY;exact ite_bd (plc_bd _ _) (by omega)
 ·have h:LeOk l W H:=leC_zero.1 hx
  have hB:=rgL_bd h.rg
  have hf:=far_in h d0 x0 x1 y0 y1
  have hi:leIs l x y d=true:=by unfold leIs;rw [hr,hf];rfl
  obtain ⟨bx,hby⟩:=farL_no hf
  obtain ⟨k3,k4,k5,k6⟩:=le_k hB h.len
  have bd1:=(bdB (l:=l) (s:=cf l 6) (o:=cf l 5) k3 k4 bx hby k6 k5).B
  have bd2:=(bdB (l:=l) (s:=cf l 5) (o:=cf l 6) k3 k4 hby bx k5 k6).B
  have m1:=mulbd (show -32768≤cf l 2 by have:=hB.f;omega) hB.f.2 bd1.1 bd1.2
  have m2:=mulbd (show -32768≤cf l 2 by have:=hB.f;omega) hB.f.2 bd2.1 bd2.2
  have ha:=hB.a
  have hb:=hB.b
  refine ⟨?_,?_,?_⟩
  ·show lnE l x y d=0
   unfold lnE;rw [if_pos hi]
  ·show _≤lnF l x y d∧lnF l x y d≤_
   unfold lnF;rw [if_pos hi];unfold leU;omega
  ·show _≤lnG l x y d∧lnG l x y d≤_
   unfold lnG;rw [if_pos hi];unfold leV;omega
 ·refine ⟨?_,?_,?_⟩
  ·show meE x y d=0
   unfold meE;rw [if_pos hr]
  ·show _≤meU l x y d∧meU l x y d≤_
   unfold meU;exact ite_bd (cutF_bd _) (by omega)
  ·show _≤meVv l x y d∧meVv l x y d≤_
   unfold meVv;exact ite_bd (cutF_bd _) (by omega)
 ·have h:shC l=0:=hx
  have hg:=(shC_zero.1 h).2
  obtain ⟨_,_,c2,c3⟩:=rg4_bd hg
  have n0:=nr_bd (B:=1048576) d0 i0.1 i0.2 (by decide)
  have n1:=nr_bd (B:=1048576) d0 i1.1 i1.2 (by decide)
  have hS:=slB hg (x:=nrF x d) (y:=nrF y d) (by omega) (by omega)
  have s1:=hS.x2
  have s2:=hS.y1
  refine ⟨?_,?_,?_⟩
  ·show afE x y d=0
   unfold afE;rw [if_pos hr]
  ·show _≤shF l x y d∧shF l x y d≤_
   unfold shF;rw [if_pos hr];unfold shU;omega
  ·show _≤shG l x y d∧shG l x y d≤_
   unfold shG;rw [if_pos hr];unfold shV;omega
 ·have h:TuOk l:=tuC_zero.1 hx
  obtain ⟨t1,t2⟩:=tuP_bd h hr
  have b1:=div_bd (p:=65536*tuPx l x y d) (d:=d) (B:=70368744177664) d0 (by omega) (by omega) (by decide)
  have b2:=div_bd (p:=65536*tuPy l x y d) (d:=d) (B:=70368744177664) d0 (by omega) (by omega) (by decide)
  refine ⟨?_,?_,?_⟩
  ·show afE x y d=0
   unfold afE;rw [if_pos hr]
  ·show _≤tuF l x y d∧tuF l x y d≤_
   unfold tuF;rw [if_pos hr];exact b1
  ·show _≤tuG l x y d∧tuG l x y d≤_
   unfold tuG;rw [if_pos hr];exact b2
end Go.Proofs.YtjbelhpgbcnlmaaGreat
end
