/- Several texts in one: Several texts in one: cubic: a channel of a row, a channel. (Printed by wip/tools/gensp12.py.) cubic.By, of a source's image. -/
import Derived.Test.YtjbelhpgbcnlmaaGreatSamplePixelsZz9
import Derived.Test.YtjbelhpgbcnlmaaGreatSamplePixelsZz16
section
section
set_option linter.unusedVariables false
namespace Go.Proofs.YtjbelhpgbcnlmaaGreat
open Go.RowKit
theorem row_size:(Tryz.prog.info? 216).map (·.size)=some 4:=by kernel_rfl
@[go_sem] theorem idx_r0 (a b c d:Value) (w:World):(Instr.index 216 (.agg #[a,b,c,d]) (.int .i64 0)).run Tryz.prog w=.ok a w :=
  run_index1 (P:=Tryz.prog) (j:=0) Tryz.underlying216 Tryz.underlying22 rfl u8s_size _ _ (by decide) _ rfl w
@[go_sem] theorem idx_r1 (a b c d:Value) (w:World):(Instr.index 216 (.agg #[a,b,c,d]) (.int .i64 1)).run Tryz.prog w=.ok b w :=
  run_index1 (P:=Tryz.prog) (j:=1) Tryz.underlying216 Tryz.underlying22 rfl u8s_size _ _ (by decide) _ rfl w
@[go_sem] theorem idx_r2 (a b c d:Value) (w:World):(Instr.index 216 (.agg #[a,b,c,d]) (.int .i64 2)).run Tryz.prog w=.ok c w :=
  run_index1 (P:=Tryz.prog) (j:=2) Tryz.underlying216 Tryz.underlying22 rfl u8s_size _ _ (by decide) _ rfl w
@[go_sem] theorem idx_r3 (a b c d:Value) (w:World):(Instr.index 216 (.agg #[a,b,c,d]) (.int .i64 3)).run Tryz.prog w=.ok d w :=
  run_index1 (P:=Tryz.prog) (j:=3) Tryz.underlying216 Tryz.underlying22 rfl u8s_size _ _ (by decide) _ rfl w
theorem idx_y0 (s0 s1 s2 s3 s4 s5 s6 s7 s8 s9 s10 s11 s12 s13 s14 s15:Value) (w:World):(Instr.index 217 (.agg #[s0,s1,s2,s3,s4,s5,s6,s7,s8,s9,s10,s11,s12,s13,s14,s15]) (.int .i64 0)).run Tryz.prog w=.ok (.agg #[s0,s1,s2,s3]) w:=by kernel_rfl
theorem idx_y1 (s0 s1 s2 s3 s4 s5 s6 s7 s8 s9 s10 s11 s12 s13 s14 s15:Value) (w:World):(Instr.index 217 (.agg #[s0,s1,s2,s3,s4,s5,s6,s7,s8,s9,s10,s11,s12,s13,s14,s15]) (.int .i64 1)).run Tryz.prog w=.ok (.agg #[s4,s5,s6,s7]) w:=by kernel_rfl
theorem idx_y2 (s0 s1 s2 s3 s4 s5 s6 s7 s8 s9 s10 s11 s12 s13 s14 s15:Value) (w:World):(Instr.index 217 (.agg #[s0,s1,s2,s3,s4,s5,s6,s7,s8,s9,s10,s11,s12,s13,s14,s15]) (.int .i64 2)).run Tryz.prog w=.ok (.agg #[s8,s9,s10,s11]) w:=by kernel_rfl
theorem idx_y3 (s0 s1 s2 s3 s4 s5 s6 s7 s8 s9 s10 s11 s12 s13 s14 s15:Value) (w:World):(Instr.index 217 (.agg #[s0,s1,s2,s3,s4,s5,s6,s7,s8,s9,s10,s11,s12,s13,s14,s15]) (.int .i64 3)).run Tryz.prog w=.ok (.agg #[s12,s13,s14,s15]) w:=by kernel_rfl
set_option maxRecDepth 100000 in
set_option maxHeartbeats 16000000 in
theorem rmix_any (S:Nat→Value) (p0 p1 p2 p3:Int) (C kk:Nat) (px:Nat→List Int) (w:World) (hS:∀ j,j<4→SlP C 0 w (S j) (px j)) (hk:kk<C) (hp0:-33554432≤p0∧p0≤33554432) (hp1:-33554432≤p1∧p1≤33554432) (hp2:-33554432≤p2∧p2≤33554432) (hp3:-33554432≤p3∧p3≤33554432) (hb:∀ j,0≤(px j).getD kk 0∧(px j).getD kk 0≤255) :
 Calls Tryz.prog 223 #[.agg #[S 0,S 1,S 2,S 3],.agg #[.int .i64 p0,.int .i64 p1,.int .i64 p2,.int .i64 p3],.int .i64 kk] w fun e w'=>e=.returned (.int .i64 (dotK [p0,p1,p2,p3] [(px 0).getD kk 0,(px 1).getD kk 0,(px 2).getD kk 0,(px 3).getD kk 0] 4))∧Below w.heap.size w w':=by
 obtain ⟨ch,hch⟩:∃ ch:Nat→Int,ch=fun j=>(px j).getD kk 0:=⟨_,rfl⟩
 have hb':∀ j,0≤ch j∧ch j≤255:=fun j=>by rw [hch];exact hb j
 have hc:∀ j,j<4→∃ (b o n c:Nat),S j=.slice (some ⟨b,o,none⟩) n c∧kk<n∧n≤c∧b<w.heap.size∧w.cell? ⟨b,o+kk,none⟩=some (.int .u8 (ch j)):=fun j hj=>by
  rw [hch];exact (hS j hj).cell hk
 rw [show [(px 0).getD kk 0,(px 1).getD kk 0,(px 2).getD kk 0,(px 3).getD kk 0]=[ch 0,ch 1,ch 2,ch 3] by rw [hch]]
 have hM:=fun (p:Int) (hp:-33554432≤p∧p≤33554432) j=>mulU_bd (M:=33554432) (by omega) hp (hb' j)
 have hmul:∀ k,-8556380160≤[p0,p1,p2,p3].getD k 0*[ch 0,ch 1,ch 2,ch 3].getD k 0∧[p0,p1,p2,p3].getD k 0*[ch 0,ch 1,ch 2,ch 3].getD k 0≤8556380160 :=
  four_mul (P:=fun z=>-8556380160≤z∧z≤8556380160) (hM _ hp0 0) (hM _ hp1 1) (hM _ hp2 2) (hM _ hp3 3) (by omega)
 have hvs:∀ k,0≤[ch 0,ch 1,ch 2,ch 3].getD k 0∧[ch 0,ch 1,ch 2,ch 3].getD k 0≤255:=four_all (P:=fun z=>0≤z∧z≤255) (hb' 0) (hb' 1) (hb' 2) (hb' 3) (by omega)
 have hMx:=fun (A A':Option Addr) (w':World) (hA:Rd w' w'.heap.size A ([p0,p1,p2,p3].map (Value.int .i64))) (hA':Rd w' w'.heap.size A' ([ch 0,ch 1,ch 2,ch 3].map (Value.int .u8)))=>wmix_any [p0,p1,p2,p3] [ch 0,ch 1,ch 2,ch 3] A A' 4 4 4 w' rfl rfl (by omega) hA hA' (M:=8556380160) (by omega) (by omega) hmul hvs
 generalize dotK [p0,p1,p2,p3] [ch 0,ch 1,ch 2,ch 3] 4=sum at *
 obtain ⟨b0,o0,n0,c0,e0,hn0,hm0,hl0,q0⟩:=hc 0 (by omega)
 obtain ⟨b1,o1,n1,c1,e1,hn1,hm1,hl1,q1⟩:=hc 1 (by omega)
 obtain ⟨b2,o2,n2,c2,e2,hn2,hm2,hl2,q2⟩:=hc 2 (by omega)
 obtain ⟨b3,o3,n3,c3,e3,hn3,hm3,hl3,q3⟩:=hc 3 (by omega)
 rw [e0,e1,e2,e3]
 clear hc e0 e1 e2 e3 hS hk hM hmul hvs hb hb' hp0 hp1 hp2 hp3 hch
 have hL:=(((Lie.start w).alloc #[.slice (some ⟨b0,o0,none⟩) n0 c0,.slice (some ⟨b1,o1,none⟩) n1 c1,.slice (some ⟨b2,o2,none⟩) n2 c2,.slice (some ⟨b3,o3,none⟩) n3 c3] 216).alloc #[.int .i64 p0,.int .i64 p1,.int .i64 p2,.int .i64 p3] 211).alloc #[.int .u8 0,.int .u8 0,.int .u8 0,.int .u8 0] 25
 simp only [World.size_alloc] at hL
 go_enter Tryz.func223,Tryz.ntmps223
 go_wp2_with fail
 generalize ((w.alloc (.cells #[.slice (some ⟨b0,o0,none⟩) n0 c0,.slice (some ⟨b1,o1,none⟩) n1 c1,.slice (some ⟨b2,o2,none⟩) n2 c2,.slice (some ⟨b3,o3,none⟩) n3 c3] 216)).alloc (.cells #[.int .i64 p0,.int .i64 p1,.int .i64 p2,.int .i64 p3] 211)).alloc (.cells #[.int .u8 0,.int .u8 0,.int .u8 0,.int .u8 0] 25)=w5 at *
 obtain ⟨g4,hg4⟩:∃ g4,w.heap.size+1=g4:=⟨_,rfl⟩
 obtain ⟨g5,hg5⟩:∃ g5,g4+1=g5:=⟨_,rfl⟩
 rw [hg4,hg5] at hL
 simp only [hg4,hg5]
 have n4:w.heap.size<g4:=by omega
 have n5:g4<g5:=by omega
 clear hg4 hg5
 go_loopw [11] (fun iv wr=>∃ k:Nat,k≤4∧iv=.int .i64 k∧Lie w [(g5,25,chA ch k),(g4,211,#[.int .i64 p0,.int .i64 p1,.int .i64 p2,.int .i64 p3]),(w.heap.size,216,#[.slice (some ⟨b0,o0,none⟩) n0 c0,.slice (some ⟨b1,o1,none⟩) n1 c1,.slice (some ⟨b2,o2,none⟩) n2 c2,.slice (some ⟨b3,o3,none⟩) n3 c3])] wr) (fun iv _=>4-(intOf iv).toNat)
 case atStart=>exact ⟨0,by omega,rfl,by rw [ch0];exact hL⟩
 case round =>
  clear hL
  obtain ⟨k,hk,rfl,hLi⟩:=hrel
  rcases (show k=0∨k=1∨k=2∨k=3∨k=4 by omega) with rfl|rfl|rfl|rfl|rfl
  ·have k5:Bk wr g5 25 (chA ch 0):=hLi.k 0 (by simp)
   have e5:=k5
   rw [ch0] at e5
   obtain ⟨d0,d1,d2,d3⟩:=e5.cell4
   have f0:=e5.frozen 0
   have z0:=(hLi.bel.cell (p:=⟨b0,o0+kk,none⟩) hl0).trans q0
   go_wp2_with fail
   exact ⟨⟨1,by omega,by go_num,by have:=hLi.st1 0 (.int .u8 (ch 0)) (by omega) (fun x hx=>by simp only [List.mem_cons,List.not_mem_nil,or_false] at hx;rcases hx with rfl|rfl <;> simp <;> omega);rw [chA_up (by omega)] at this;exact this⟩,by simp [intOf]⟩
  ·have k5:Bk wr g5 25 (chA ch 1):=hLi.k 0 (by simp)
   have e5:=k5
   rw [ch1] at e5
   obtain ⟨d0,d1,d2,d3⟩:=e5.cell4
   have f0:=e5.frozen 1
   have z0:=(hLi.bel.cell (p:=⟨b1,o1+kk,none⟩) hl1).trans q1
   go_wp2_with fail
   exact ⟨⟨2,by omega,by go_num,by have:=hLi.st1 1 (.int .u8 (ch 1)) (by omega) (fun x hx=>by simp only [List.mem_cons,List.not_mem_nil,or_false] at hx;rcases hx with rfl|rfl <;> simp <;> omega);rw [chA_up (by omega)] at this;exact this⟩,by simp [intOf]⟩
  ·have k5:Bk wr g5 25 (chA ch 2):=hLi.k 0 (by simp)
   have e5:=k5
   rw [ch2] at e5
   obtain ⟨d0,d1,d2,d3⟩:=e5.cell4
   have f0:=e5.frozen 2
   have z0:=(hLi.bel.cell (p:=⟨b2,o2+kk,none⟩) hl2).trans q2
   go_wp2_with fail
   exact ⟨⟨3,by omega,by go_num,by have:=hLi.st1 2 (.int .u8 (ch 2)) (by omega) (fun x hx=>by simp only [List.mem_cons,List.not_mem_nil,or_false] at hx;rcases hx with rfl|rfl <;> simp <;> omega);rw [chA_up (by omega)] at this;exact this⟩,by simp [intOf]⟩
  ·have k5:Bk wr g5 25 (chA ch 3):=hLi.k 0 (by simp)
   have e5:=k5
   rw [ch3] at e5
   obtain ⟨d0,d1,d2,d3⟩:=e5.cell4
   have f0:=e5.frozen 3
   have z0:=(hLi.bel.cell (p:=⟨b3,o3+kk,none⟩) hl3).trans q3
   go_wp2_with fail
   exact ⟨⟨4,by omega,by go_num,by have:=hLi.st1 3 (.int .u8 (ch 3)) (by omega) (fun x hx=>by simp only [List.mem_cons,List.not_mem_nil,or_false] at hx;rcases hx with rfl|rfl <;> simp <;> omega);rw [chA_up (by omega)] at this;exact this⟩,by simp [intOf]⟩
  ·have k5:Bk wr g5 25 (chA ch 4):=hLi.k 0 (by simp)
   have k4:Bk wr g4 211 #[.int .i64 p0,.int .i64 p1,.int .i64 p2,.int .i64 p3]:=hLi.k 1 (by simp)
   rw [ch4] at k5
   have hX:=fun (d:Nat) (os:Array Obj)=>hMx (some ⟨g4,0,none⟩) (some ⟨g5,0,none⟩) (Go.Sort.grow (redrawn wr d) os)
    (by have k2x:=k4.nx (below_regrown wr d os);obtain ⟨h4,h5,h6,h7⟩:=k2x.cell4;exact rd4 h4 h5 h6 h7 k2x.lt)
    (by have k5x:=k5.nx (below_regrown wr d os);obtain ⟨h0,h1,h2,h3⟩:=k5x.cell4;exact rd4 h0 h1 h2 h3 k5x.lt)
   have hbz:=hLi.bel
   clear hMx k5 k4 hLi q0 q1 q2 q3
   go_upto_region 8 with fail
   refine wp_region_quiet_below (by kernel_rfl) (by kernel_rfl) ?_
   repeat (first
    | go_big_quiet_step (with_reducible exact quiet_below (hX _ _))
    | quiet_step (with_reducible exact quiet_below (hX _ _)))
   refine wpQuiet_nil ?_
   intro _ hw'
   obtain ⟨⟨d9,os⟩,hw''⟩:=hw'
   subst hw''
   have hbx:=below_regrown wr d9 os
   generalize Go.Sort.grow (redrawn wr d9) os=wx at *
   go_wp2_with fail
   go_returns
   exact ⟨rfl,hbz.trans (hbx.mono hbz.size)⟩
def rmZ (s:Int) (px:Nat→List Int) (kk y:Nat):Int:=dotK [cw 0 s,cw 1 s,cw 2 s,cw 3 s] [(px (4*y)).getD kk 0,(px (4*y+1)).getD kk 0,(px (4*y+2)).getD kk 0,(px (4*y+3)).getD kk 0] 4
theorem rmZ_bd {s:Int} (hs:0≤s∧s≤256) {px:Nat→List Int} {kk:Nat} (hb:∀ j,0≤(px j).getD kk 0∧(px j).getD kk 0≤255) (y:Nat):-34225520640≤rmZ s px kk y∧rmZ s px kk y≤34225520640:=by
 have hM:=fun (i:Nat) j=>mulU_bd (M:=33554432) (by omega) (cw_bd hs.1 hs.2 i) (hb j)
 have:=dotK_bd (M:=8556380160) (by omega) (four_mul (P:=fun z=>-8556380160≤z∧z≤8556380160) (hM 0 (4*y)) (hM 1 (4*y+1)) (hM 2 (4*y+2)) (hM 3 (4*y+3)) (by omega)) 4
 unfold rmZ
 omega
theorem mulS_bd {a m:Int} (ha:-33554432≤a∧a≤33554432) (hm:-34225520640≤m∧m≤34225520640):-1148417904979476480≤a*m∧a*m≤1148417904979476480:=by
 have h1:(a+33554432)*(34225520640-m)≥0:=Int.mul_nonneg (by omega) (by omega)
 have h2:(33554432-a)*(34225520640+m)≥0:=Int.mul_nonneg (by omega) (by omega)
 have h3:(a+33554432)*(34225520640+m)≥0:=Int.mul_nonneg (by omega) (by omega)
 have h4:(33554432-a)*(34225520640-m)≥0:=Int.mul_nonneg (by omega) (by omega)
 rw [Int.add_mul,Int.mul_sub,Int.mul_sub] at h1
 rw [Int.sub_mul,Int.mul_add,Int.mul_add] at h2
 rw [Int.add_mul,Int.mul_add,Int.mul_add] at h3
 rw [Int.sub_mul,Int.mul_sub,Int.mul_sub] at h4
 omega
def cuZ (s t:Int) (px:Nat→List Int) (kk:Nat) (k:Nat):Int:=dotK [cw 0 t,cw 1 t,cw 2 t,cw 3 t] [rmZ s px kk 0,rmZ s px kk 1,rmZ s px kk 2,rmZ s px kk 3] k
theorem cuZ_bd {s t:Int} (hs:0≤s∧s≤256) (ht:0≤t∧t≤256) {px:Nat→List Int} {kk:Nat} (hb:∀ j,0≤(px j).getD kk 0∧(px j).getD kk 0≤255) (k:Nat) (hk:k≤4):-4593671619917905920≤cuZ s t px kk k∧cuZ s t px kk k≤4593671619917905920:=by
 have hM:=fun (i:Nat) j=>mulS_bd (cw_bd ht.1 ht.2 i) (rmZ_bd hs hb j)
 have:=dotK_bd (M:=1148417904979476480) (by omega) (four_mul (P:=fun z=>-1148417904979476480≤z∧z≤1148417904979476480) (hM 0 0) (hM 1 1) (hM 2 2) (hM 3 3) (by omega)) k
 have h2:(k:Int)*1148417904979476480≤4*1148417904979476480:=Int.mul_le_mul_of_nonneg_right (by omega) (by omega)
 unfold cuZ
 omega
theorem lcA_16 (S:Nat→Value) (xs:List Value):lcA S 16 xs=([S 0,S 1,S 2,S 3,S 4,S 5,S 6,S 7,S 8,S 9,S 10,S 11,S 12,S 13,S 14,S 15]++xs).toArray:=by
 unfold lcA lcL;congr 1
set_option maxRecDepth 100000 in
set_option maxHeartbeats 32000000 in
theorem cchan_any (S:Nat→Value) (s t:Int) (C kk:Nat) (px:Nat→List Int) (w:World) (hS:∀ j,j<16→SlP C 0 w (S j) (px j)) (hk:kk<C) (hs:0≤s∧s≤256) (ht:0≤t∧t≤256) (hb:∀ j,0≤(px j).getD kk 0∧(px j).getD kk 0≤255) :
 Calls Tryz.prog 162 #[.agg (lcA S 16 (xyL s t)),.int .i64 kk] w fun e w'=>e=.returned (.int .u8 (byteZ (cuZ s t px kk 4) 1125899906842624))∧Below w.heap.size w w':=by
 have hMx0:=fun (w':World) (hb':Below w.heap.size w w')=>rmix_any (fun j=>S (0+j)) (cw 0 s) (cw 1 s) (cw 2 s) (cw 3 s) C kk (fun j=>px (0+j)) w' (fun j hj=>(hS (0+j) (by omega)).nx hb') hk (cw_bd hs.1 hs.2 0) (cw_bd hs.1 hs.2 1) (cw_bd hs.1 hs.2 2) (cw_bd hs.1 hs.2 3) (fun j=>hb _)
 change ∀ (w':World),Below w.heap.size w w'→Calls Tryz.prog 223 #[.agg #[S 0,S 1,S 2,S 3],_,_] w' fun e w''=>e=.returned (.int .i64 (rmZ s px kk 0))∧_ at hMx0
 have hMx1:=fun (w':World) (hb':Below w.heap.size w w')=>rmix_any (fun j=>S (4+j)) (cw 0 s) (cw 1 s) (cw 2 s) (cw 3 s) C kk (fun j=>px (4+j)) w' (fun j hj=>(hS (4+j) (by omega)).nx hb') hk (cw_bd hs.1 hs.2 0) (cw_bd hs.1 hs.2 1) (cw_bd hs.1 hs.2 2) (cw_bd hs.1 hs.2 3) (fun j=>hb _)
 change ∀ (w':World),Below w.heap.size w w'→Calls Tryz.prog 223 #[.agg #[S 4,S 5,S 6,S 7],_,_] w' fun e w''=>e=.returned (.int .i64 (rmZ s px kk 1))∧_ at hMx1
 have hMx2:=fun (w':World) (hb':Below w.heap.size w w')=>rmix_any (fun j=>S (8+j)) (cw 0 s) (cw 1 s) (cw 2 s) (cw 3 s) C kk (fun j=>px (8+j)) w' (fun j hj=>(hS (8+j) (by omega)).nx hb') hk (cw_bd hs.1 hs.2 0) (cw_bd hs.1 hs.2 1) (cw_bd hs.1 hs.2 2) (cw_bd hs.1 hs.2 3) (fun j=>hb _)
 change ∀ (w':World),Below w.heap.size w w'→Calls Tryz.prog 223 #[.agg #[S 8,S 9,S 10,S 11],_,_] w' fun e w''=>e=.returned (.int .i64 (rmZ s px kk 2))∧_ at hMx2
 have hMx3:=fun (w':World) (hb':Below w.heap.size w w')=>rmix_any (fun j=>S (12+j)) (cw 0 s) (cw 1 s) (cw 2 s) (cw 3 s) C kk (fun j=>px (12+j)) w' (fun j hj=>(hS (12+j) (by omega)).nx hb') hk (cw_bd hs.1 hs.2 0) (cw_bd hs.1 hs.2 1) (cw_bd hs.1 hs.2 2) (cw_bd hs.1 hs.2 3) (fun j=>hb _)
 change ∀ (w':World),Below w.heap.size w w'→Calls Tryz.prog 223 #[.agg #[S 12,S 13,S 14,S 15],_,_] w' fun e w''=>e=.returned (.int .i64 (rmZ s px kk 3))∧_ at hMx3
 have hB:=fun k hk=>cuZ_bd hs ht hb k hk
 have hBy:=fun (w':World)=>wbyte_any (cuZ s t px kk 4) 1125899906842624 w' (by have:=hB 4 (by omega);unfold J62;omega) (by omega) (by omega)
 have HU0:Hid (cuZ s t px kk 1=cuZ s t px kk 0+cw 0 t*rmZ s px kk 0):=rfl
 have vm0:wrap64 (cw 0 t*rmZ s px kk 0)=cw 0 t*rmZ s px kk 0:=by have:=mulS_bd (cw_bd ht.1 ht.2 0) (rmZ_bd hs hb 0);exact IntWalk.wrap64_in _ ⟨by omega,by omega⟩
 have va0:wrap64 (cuZ s t px kk 0+cw 0 t*rmZ s px kk 0)=cuZ s t px kk 1:=by rw [← HU0.out];have:=hB 1 (by omega);exact IntWalk.wrap64_in _ ⟨by omega,by omega⟩
 obtain ⟨m0,hm0⟩:∃ m,cw 0 t*rmZ s px kk 0=m:=⟨_,rfl⟩
 rw [hm0] at va0
 replace vm0:=vm0.trans hm0
 have HU1:Hid (cuZ s t px kk 2=cuZ s t px kk 1+cw 1 t*rmZ s px kk 1):=rfl
 have vm1:wrap64 (cw 1 t*rmZ s px kk 1)=cw 1 t*rmZ s px kk 1:=by have:=mulS_bd (cw_bd ht.1 ht.2 1) (rmZ_bd hs hb 1);exact IntWalk.wrap64_in _ ⟨by omega,by omega⟩
 have va1:wrap64 (cuZ s t px kk 1+cw 1 t*rmZ s px kk 1)=cuZ s t px kk 2:=by rw [← HU1.out];have:=hB 2 (by omega);exact IntWalk.wrap64_in _ ⟨by omega,by omega⟩
 obtain ⟨m1,hm1⟩:∃ m,cw 1 t*rmZ s px kk 1=m:=⟨_,rfl⟩
 rw [hm1] at va1
 replace vm1:=vm1.trans hm1
 have HU2:Hid (cuZ s t px kk 3=cuZ s t px kk 2+cw 2 t*rmZ s px kk 2):=rfl
 have vm2:wrap64 (cw 2 t*rmZ s px kk 2)=cw 2 t*rmZ s px kk 2:=by have:=mulS_bd (cw_bd ht.1 ht.2 2) (rmZ_bd hs hb 2);exact IntWalk.wrap64_in _ ⟨by omega,by omega⟩
 have va2:wrap64 (cuZ s t px kk 2+cw 2 t*rmZ s px kk 2)=cuZ s t px kk 3:=by rw [← HU2.out];have:=hB 3 (by omega);exact IntWalk.wrap64_in _ ⟨by omega,by omega⟩
 obtain ⟨m2,hm2⟩:∃ m,cw 2 t*rmZ s px kk 2=m:=⟨_,rfl⟩
 rw [hm2] at va2
 replace vm2:=vm2.trans hm2
 have HU3:Hid (cuZ s t px kk 4=cuZ s t px kk 3+cw 3 t*rmZ s px kk 3):=rfl
 have vm3:wrap64 (cw 3 t*rmZ s px kk 3)=cw 3 t*rmZ s px kk 3:=by have:=mulS_bd (cw_bd ht.1 ht.2 3) (rmZ_bd hs hb 3);exact IntWalk.wrap64_in _ ⟨by omega,by omega⟩
 have va3:wrap64 (cuZ s t px kk 3+cw 3 t*rmZ s px kk 3)=cuZ s t px kk 4:=by rw [← HU3.out];have:=hB 4 (by omega);exact IntWalk.wrap64_in _ ⟨by omega,by omega⟩
 obtain ⟨m3,hm3⟩:∃ m,cw 3 t*rmZ s px kk 3=m:=⟨_,rfl⟩
 rw [hm3] at va3
 replace vm3:=vm3.trans hm3
 have hc0:Hid (cuZ s t px kk 0=0):=rfl
 rw [lcA_16]
 simp only [xyL,List.cons_append,List.nil_append]
 have hone:∀ j,j<16→∃ A n c,S j=.slice A n c:=fun j hj=>by obtain ⟨A,n,c,L,h,_⟩:=hS j hj;exact ⟨A,n,c,h⟩
 generalize rmZ s px kk 0=r0 at *
 generalize rmZ s px kk 1=r1 at *
 generalize rmZ s px kk 2=r2 at *
 generalize rmZ s px kk 3=r3 at *
 generalize byteZ (cuZ s t px kk 4) 1125899906842624=res at *
 generalize cuZ s t px kk=sm at *
 clear hS hk hs ht hb hB HU0 HU1 HU2 HU3 hm0 hm1 hm2 hm3
 generalize cw 0 s=x0 at *
 generalize cw 1 s=x1 at *
 generalize cw 2 s=x2 at *
 generalize cw 3 s=x3 at *
 generalize cw 0 t=y0 at *
 generalize cw 1 t=y1 at *
 generalize cw 2 t=y2 at *
 generalize cw 3 t=y3 at *
 obtain ⟨A0,n0,c0,es0⟩:=hone 0 (by omega)
 obtain ⟨A1,n1,c1,es1⟩:=hone 1 (by omega)
 obtain ⟨A2,n2,c2,es2⟩:=hone 2 (by omega)
 obtain ⟨A3,n3,c3,es3⟩:=hone 3 (by omega)
 obtain ⟨A4,n4,c4,es4⟩:=hone 4 (by omega)
 obtain ⟨A5,n5,c5,es5⟩:=hone 5 (by omega)
 obtain ⟨A6,n6,c6,es6⟩:=hone 6 (by omega)
 obtain ⟨A7,n7,c7,es7⟩:=hone 7 (by omega)
 obtain ⟨A8,n8,c8,es8⟩:=hone 8 (by omega)
 obtain ⟨A9,n9,c9,es9⟩:=hone 9 (by omega)
 obtain ⟨A10,n10,c10,es10⟩:=hone 10 (by omega)
 obtain ⟨A11,n11,c11,es11⟩:=hone 11 (by omega)
 obtain ⟨A12,n12,c12,es12⟩:=hone 12 (by omega)
 obtain ⟨A13,n13,c13,es13⟩:=hone 13 (by omega)
 obtain ⟨A14,n14,c14,es14⟩:=hone 14 (by omega)
 obtain ⟨A15,n15,c15,es15⟩:=hone 15 (by omega)
 rw [es0,es1,es2,es3,es4,es5,es6,es7,es8,es9,es10,es11,es12,es13,es14,es15]
 rw [es0,es1,es2,es3] at hMx0
 rw [es4,es5,es6,es7] at hMx1
 rw [es8,es9,es10,es11] at hMx2
 rw [es12,es13,es14,es15] at hMx3
 clear hone es0 es1 es2 es3 es4 es5 es6 es7 es8 es9 es10 es11 es12 es13 es14 es15
 have hL:=(Lie.start w).alloc #[.slice A0 n0 c0,.slice A1 n1 c1,.slice A2 n2 c2,.slice A3 n3 c3,.slice A4 n4 c4,.slice A5 n5 c5,.slice A6 n6 c6,.slice A7 n7 c7,.slice A8 n8 c8,.slice A9 n9 c9,.slice A10 n10 c10,.slice A11 n11 c11,.slice A12 n12 c12,.slice A13 n13 c13,.slice A14 n14 c14,.slice A15 n15 c15,.int .i64 x0,.int .i64 x1,.int .i64 x2,.int .i64 x3,.int .i64 y0,.int .i64 y1,.int .i64 y2,.int .i64 y3] 219
 go_enter Tryz.func162,Tryz.ntmps162
 go_wp2_with fail
 generalize w.alloc (.cells #[.slice A0 n0 c0,.slice A1 n1 c1,.slice A2 n2 c2,.slice A3 n3 c3,.slice A4 n4 c4,.slice A5 n5 c5,.slice A6 n6 c6,.slice A7 n7 c7,.slice A8 n8 c8,.slice A9 n9 c9,.slice A10 n10 c10,.slice A11 n11 c11,.slice A12 n12 c12,.slice A13 n13 c13,.slice A14 n14 c14,.slice A15 n15 c15,.int .i64 x0,.int .i64 x1,.int .i64 x2,.int .i64 x3,.int .i64 y0,.int .i64 y1,.int .i64 y2,.int .i64 y3] 219)=w5 at *
 obtain ⟨g2,hg2⟩:∃ g2,w.heap.size=g2:=⟨_,rfl⟩
 simp only [hg2]
 rw [hg2] at hL
 have h2le:w.heap.size≤g2:=by omega
 have H2:=Lib.hid hg2
 clear hg2
 go_loopw [6,11] (fun sv iv wr=>∃ k:Nat,k≤4∧iv=.int .i64 k∧sv=.int .i64 (sm k)∧Lie w [(g2,219,#[.slice A0 n0 c0,.slice A1 n1 c1,.slice A2 n2 c2,.slice A3 n3 c3,.slice A4 n4 c4,.slice A5 n5 c5,.slice A6 n6 c6,.slice A7 n7 c7,.slice A8 n8 c8,.slice A9 n9 c9,.slice A10 n10 c10,.slice A11 n11 c11,.slice A12 n12 c12,.slice A13 n13 c13,.slice A14 n14 c14,.slice A15 n15 c15,.int .i64 x0,.int .i64 x1,.int .i64 x2,.int .i64 x3,.int .i64 y0,.int .i64 y1,.int .i64 y2,.int .i64 y3])] wr) (fun _ iv _=>4-(intOf iv).toNat)
 case atStart=>exact ⟨0,by omega,rfl,by rw [hc0.out],hL⟩
 case round =>
  clear hL
  obtain ⟨k,hk,rfl,rfl,hLi⟩:=hrel
  rcases (show k=0∨k=1∨k=2∨k=3∨k=4 by omega) with rfl|rfl|rfl|rfl|rfl
  ·clear hMx1 vm1 va1 hMx2 vm2 va2 hMx3 vm3 va3 hBy
   have hiy:=fun w=>idx_y0 (.slice A0 n0 c0) (.slice A1 n1 c1) (.slice A2 n2 c2) (.slice A3 n3 c3) (.slice A4 n4 c4) (.slice A5 n5 c5) (.slice A6 n6 c6) (.slice A7 n7 c7) (.slice A8 n8 c8) (.slice A9 n9 c9) (.slice A10 n10 c10) (.slice A11 n11 c11) (.slice A12 n12 c12) (.slice A13 n13 c13) (.slice A14 n14 c14) (.slice A15 n15 c15) w
   have hL8:=hLi.alloc #[.slice A0 n0 c0,.slice A1 n1 c1,.slice A2 n2 c2,.slice A3 n3 c3] 216
   go_upto_region 6 with fail
   have k8:=Bk.new wr 216 #[.slice A0 n0 c0,.slice A1 n1 c1,.slice A2 n2 c2,.slice A3 n3 c3]
   have k2:Bk (wr.alloc (.cells #[.slice A0 n0 c0,.slice A1 n1 c1,.slice A2 n2 c2,.slice A3 n3 c3] 216)) g2 219 _:=hL8.k 1 (by simp)
   generalize hg8:wr.heap.size=g8 at *
   generalize wr.alloc (.cells #[.slice A0 n0 c0,.slice A1 n1 c1,.slice A2 n2 c2,.slice A3 n3 c3] 216)=wx0 at *
   clear hg8
   have q16:=fun (n:Nat) (os:Array Obj)=>cell_regrown ((k2.cell 16).trans (show _=some (.int .i64 x0) from rfl)) n os
   have q17:=fun (n:Nat) (os:Array Obj)=>cell_regrown ((k2.cell 17).trans (show _=some (.int .i64 x1) from rfl)) n os
   have q18:=fun (n:Nat) (os:Array Obj)=>cell_regrown ((k2.cell 18).trans (show _=some (.int .i64 x2) from rfl)) n os
   have q19:=fun (n:Nat) (os:Array Obj)=>cell_regrown ((k2.cell 19).trans (show _=some (.int .i64 x3) from rfl)) n os
   have qy:=fun (n:Nat) (os:Array Obj)=>cell_regrown ((k2.cell (20+0)).trans (show _=some (.int .i64 y0) from rfl)) n os
   have r0':=fun (n:Nat) (os:Array Obj)=>cell_regrown k8.cell4.1 n os
   have r1':=fun (n:Nat) (os:Array Obj)=>cell_regrown k8.cell4.2.1 n os
   have r2':=fun (n:Nat) (os:Array Obj)=>cell_regrown k8.cell4.2.2.1 n os
   have r3':=fun (n:Nat) (os:Array Obj)=>cell_regrown k8.cell4.2.2.2 n os
   have hX:=fun (d:Nat) (os:Array Obj)=>hMx0 (Go.Sort.grow (redrawn wx0 d) os) (hL8.bel.trans ((below_regrown wx0 d os).mono hL8.sz))
   refine wp_region_quiet_below (by kernel_rfl) (by kernel_rfl) ?_
   repeat (first
    | go_big_quiet_step (with_reducible exact quiet_below (hX _ _))
    | quiet_step (with_reducible exact quiet_below (hX _ _)))
   refine wpQuiet_nil ?_
   intro _ hw'
   obtain ⟨⟨d9,os⟩,hw''⟩:=hw'
   subst hw''
   have hbx:=below_regrown wx0 d9 os
   generalize Go.Sort.grow (redrawn wx0 d9) os=wx at *
   clear q16 q17 q18 q19 qy r0' r1' r2' r3' hX hMx0
   go_wp2_with fail
   exact ⟨⟨1,by omega,by go_num,by first | rfl|rw [va0],(hL8.nx hbx).sub (fun x hx=>List.mem_cons_of_mem _ hx)⟩,by simp [intOf]⟩
  ·clear hMx0 vm0 va0 hMx2 vm2 va2 hMx3 vm3 va3 hBy
   have hiy:=fun w=>idx_y1 (.slice A0 n0 c0) (.slice A1 n1 c1) (.slice A2 n2 c2) (.slice A3 n3 c3) (.slice A4 n4 c4) (.slice A5 n5 c5) (.slice A6 n6 c6) (.slice A7 n7 c7) (.slice A8 n8 c8) (.slice A9 n9 c9) (.slice A10 n10 c10) (.slice A11 n11 c11) (.slice A12 n12 c12) (.slice A13 n13 c13) (.slice A14 n14 c14) (.slice A15 n15 c15) w
   have hL8:=hLi.alloc #[.slice A4 n4 c4,.slice A5 n5 c5,.slice A6 n6 c6,.slice A7 n7 c7] 216
   go_upto_region 6 with fail
   have k8:=Bk.new wr 216 #[.slice A4 n4 c4,.slice A5 n5 c5,.slice A6 n6 c6,.slice A7 n7 c7]
   have k2:Bk (wr.alloc (.cells #[.slice A4 n4 c4,.slice A5 n5 c5,.slice A6 n6 c6,.slice A7 n7 c7] 216)) g2 219 _:=hL8.k 1 (by simp)
   generalize hg8:wr.heap.size=g8 at *
   generalize wr.alloc (.cells #[.slice A4 n4 c4,.slice A5 n5 c5,.slice A6 n6 c6,.slice A7 n7 c7] 216)=wx0 at *
   clear hg8
   have q16:=fun (n:Nat) (os:Array Obj)=>cell_regrown ((k2.cell 16).trans (show _=some (.int .i64 x0) from rfl)) n os
   have q17:=fun (n:Nat) (os:Array Obj)=>cell_regrown ((k2.cell 17).trans (show _=some (.int .i64 x1) from rfl)) n os
   have q18:=fun (n:Nat) (os:Array Obj)=>cell_regrown ((k2.cell 18).trans (show _=some (.int .i64 x2) from rfl)) n os
   have q19:=fun (n:Nat) (os:Array Obj)=>cell_regrown ((k2.cell 19).trans (show _=some (.int .i64 x3) from rfl)) n os
   have qy:=fun (n:Nat) (os:Array Obj)=>cell_regrown ((k2.cell (20+1)).trans (show _=some (.int .i64 y1) from rfl)) n os
   have r0':=fun (n:Nat) (os:Array Obj)=>cell_regrown k8.cell4.1 n os
   have r1':=fun (n:Nat) (os:Array Obj)=>cell_regrown k8.cell4.2.1 n os
   have r2':=fun (n:Nat) (os:Array Obj)=>cell_regrown k8.cell4.2.2.1 n os
   have r3':=fun (n:Nat) (os:Array Obj)=>cell_regrown k8.cell4.2.2.2 n os
   have hX:=fun (d:Nat) (os:Array Obj)=>hMx1 (Go.Sort.grow (redrawn wx0 d) os) (hL8.bel.trans ((below_regrown wx0 d os).mono hL8.sz))
   refine wp_region_quiet_below (by kernel_rfl) (by kernel_rfl) ?_
   repeat (first
    | go_big_quiet_step (with_reducible exact quiet_below (hX _ _))
    | quiet_step (with_reducible exact quiet_below (hX _ _)))
   refine wpQuiet_nil ?_
   intro _ hw'
   obtain ⟨⟨d9,os⟩,hw''⟩:=hw'
   subst hw''
   have hbx:=below_regrown wx0 d9 os
   generalize Go.Sort.grow (redrawn wx0 d9) os=wx at *
   clear q16 q17 q18 q19 qy r0' r1' r2' r3' hX hMx1
   go_wp2_with fail
   exact ⟨⟨2,by omega,by go_num,by first | rfl|rw [va1],(hL8.nx hbx).sub (fun x hx=>List.mem_cons_of_mem _ hx)⟩,by simp [intOf]⟩
  ·clear hMx0 vm0 va0 hMx1 vm1 va1 hMx3 vm3 va3 hBy
   have hiy:=fun w=>idx_y2 (.slice A0 n0 c0) (.slice A1 n1 c1) (.slice A2 n2 c2) (.slice A3 n3 c3) (.slice A4 n4 c4) (.slice A5 n5 c5) (.slice A6 n6 c6) (.slice A7 n7 c7) (.slice A8 n8 c8) (.slice A9 n9 c9) (.slice A10 n10 c10) (.slice A11 n11 c11) (.slice A12 n12 c12) (.slice A13 n13 c13) (.slice A14 n14 c14) (.slice A15 n15 c15) w
   have hL8:=hLi.alloc #[.slice A8 n8 c8,.slice A9 n9 c9,.slice A10 n10 c10,.slice A11 n11 c11] 216
   go_upto_region 6 with fail
   have k8:=Bk.new wr 216 #[.slice A8 n8 c8,.slice A9 n9 c9,.slice A10 n10 c10,.slice A11 n11 c11]
   have k2:Bk (wr.alloc (.cells #[.slice A8 n8 c8,.slice A9 n9 c9,.slice A10 n10 c10,.slice A11 n11 c11] 216)) g2 219 _:=hL8.k 1 (by simp)
   generalize hg8:wr.heap.size=g8 at *
   generalize wr.alloc (.cells #[.slice A8 n8 c8,.slice A9 n9 c9,.slice A10 n10 c10,.slice A11 n11 c11] 216)=wx0 at *
   clear hg8
   have q16:=fun (n:Nat) (os:Array Obj)=>cell_regrown ((k2.cell 16).trans (show _=some (.int .i64 x0) from rfl)) n os
   have q17:=fun (n:Nat) (os:Array Obj)=>cell_regrown ((k2.cell 17).trans (show _=some (.int .i64 x1) from rfl)) n os
   have q18:=fun (n:Nat) (os:Array Obj)=>cell_regrown ((k2.cell 18).trans (show _=some (.int .i64 x2) from rfl)) n os
   have q19:=fun (n:Nat) (os:Array Obj)=>cell_regrown ((k2.cell 19).trans (show _=some (.int .i64 x3) from rfl)) n os
   have qy:=fun (n:Nat) (os:Array Obj)=>cell_regrown ((k2.cell (20+2)).trans (show _=some (.int .i64 y2) from rfl)) n os
   have r0':=fun (n:Nat) (os:Array Obj)=>cell_regrown k8.cell4.1 n os
   have r1':=fun (n:Nat) (os:Array Obj)=>cell_regrown k8.cell4.2.1 n os
   have r2':=fun (n:Nat) (os:Array Obj)=>cell_regrown k8.cell4.2.2.1 n os
   have r3':=fun (n:Nat) (os:Array Obj)=>cell_regrown k8.cell4.2.2.2 n os
   have hX:=fun (d:Nat) (os:Array Obj)=>hMx2 (Go.Sort.grow (redrawn wx0 d) os) (hL8.bel.trans ((below_regrown wx0 d os).mono hL8.sz))
   refine wp_region_quiet_below (by kernel_rfl) (by kernel_rfl) ?_
   repeat (first
    | go_big_quiet_step (with_reducible exact quiet_below (hX _ _))
    | quiet_step (with_reducible exact quiet_below (hX _ _)))
   refine wpQuiet_nil ?_
   intro _ hw'
   obtain ⟨⟨d9,os⟩,hw''⟩:=hw'
   subst hw''
   have hbx:=below_regrown wx0 d9 os
   generalize Go.Sort.grow (redrawn wx0 d9) os=wx at *
   clear q16 q17 q18 q19 qy r0' r1' r2' r3' hX hMx2
   go_wp2_with fail
   exact ⟨⟨3,by omega,by go_num,by first | rfl|rw [va2],(hL8.nx hbx).sub (fun x hx=>List.mem_cons_of_mem _ hx)⟩,by simp [intOf]⟩
  ·clear hMx0 vm0 va0 hMx1 vm1 va1 hMx2 vm2 va2 hBy
   have hiy:=fun w=>idx_y3 (.slice A0 n0 c0) (.slice A1 n1 c1) (.slice A2 n2 c2) (.slice A3 n3 c3) (.slice A4 n4 c4) (.slice A5 n5 c5) (.slice A6 n6 c6) (.slice A7 n7 c7) (.slice A8 n8 c8) (.slice A9 n9 c9) (.slice A10 n10 c10) (.slice A11 n11 c11) (.slice A12 n12 c12) (.slice A13 n13 c13) (.slice A14 n14 c14) (.slice A15 n15 c15) w
   have hL8:=hLi.alloc #[.slice A12 n12 c12,.slice A13 n13 c13,.slice A14 n14 c14,.slice A15 n15 c15] 216
   go_upto_region 6 with fail
   have k8:=Bk.new wr 216 #[.slice A12 n12 c12,.slice A13 n13 c13,.slice A14 n14 c14,.slice A15 n15 c15]
   have k2:Bk (wr.alloc (.cells #[.slice A12 n12 c12,.slice A13 n13 c13,.slice A14 n14 c14,.slice A15 n15 c15] 216)) g2 219 _:=hL8.k 1 (by simp)
   generalize hg8:wr.heap.size=g8 at *
   generalize wr.alloc (.cells #[.slice A12 n12 c12,.slice A13 n13 c13,.slice A14 n14 c14,.slice A15 n15 c15] 216)=wx0 at *
   clear hg8
   have q16:=fun (n:Nat) (os:Array Obj)=>cell_regrown ((k2.cell 16).trans (show _=some (.int .i64 x0) from rfl)) n os
   have q17:=fun (n:Nat) (os:Array Obj)=>cell_regrown ((k2.cell 17).trans (show _=some (.int .i64 x1) from rfl)) n os
   have q18:=fun (n:Nat) (os:Array Obj)=>cell_regrown ((k2.cell 18).trans (show _=some (.int .i64 x2) from rfl)) n os
   have q19:=fun (n:Nat) (os:Array Obj)=>cell_regrown ((k2.cell 19).trans (show _=some (.int .i64 x3) from rfl)) n os
   have qy:=fun (n:Nat) (os:Array Obj)=>cell_regrown ((k2.cell (20+3)).trans (show _=some (.int .i64 y3) from rfl)) n os
   have r0':=fun (n:Nat) (os:Array Obj)=>cell_regrown k8.cell4.1 n os
   have r1':=fun (n:Nat) (os:Array Obj)=>cell_regrown k8.cell4.2.1 n os
   have r2':=fun (n:Nat) (os:Array Obj)=>cell_regrown k8.cell4.2.2.1 n os
   have r3':=fun (n:Nat) (os:Array Obj)=>cell_regrown k8.cell4.2.2.2 n os
   have hX:=fun (d:Nat) (os:Array Obj)=>hMx3 (Go.Sort.grow (redrawn wx0 d) os) (hL8.bel.trans ((below_regrown wx0 d os).mono hL8.sz))
   refine wp_region_quiet_below (by kernel_rfl) (by kernel_rfl) ?_
   repeat (first
    | go_big_quiet_step (with_reducible exact quiet_below (hX _ _))
    | quiet_step (with_reducible exact quiet_below (hX _ _)))
   refine wpQuiet_nil ?_
   intro _ hw'
   obtain ⟨⟨d9,os⟩,hw''⟩:=hw'
   subst hw''
   have hbx:=below_regrown wx0 d9 os
   generalize Go.Sort.grow (redrawn wx0 d9) os=wx at *
   clear q16 q17 q18 q19 qy r0' r1' r2' r3' hX hMx3
   go_wp2_with fail
   exact ⟨⟨4,by omega,by go_num,by first | rfl|rw [va3],(hL8.nx hbx).sub (fun x hx=>List.mem_cons_of_mem _ hx)⟩,by simp [intOf]⟩
  ·clear hMx0 hMx1 hMx2 hMx3 vm0 vm1 vm2 vm3 va0 va1 va2 va3
   go_wp2_with (go_at_call 220;(with_reducible refine (hBy _).mono ?_);rintro e w6 ⟨rfl,hb6⟩)
   go_returns
   exact ⟨rfl,(hLi.nx hb6).bel⟩
end Go.Proofs.YtjbelhpgbcnlmaaGreat
end
section
set_option linter.unusedVariables false
namespace Go.Proofs.YtjbelhpgbcnlmaaGreat
open Go.RowKit
def cubF (px:Int→Int→List Int) (u v:Int) (kk:Nat):Int :=
 byteZ (cuZ (u%65536/256) (v%65536/256) (fun j=>px (u/65536-1+(j%4:Nat)) (v/65536-1+(j/4:Nat))) kk 4) 1125899906842624
theorem ar_size24:(Tryz.prog.info? 219).map (·.size)=some 24:=by kernel_rfl
theorem lcA_one {S:Nat→Value} {xs:List Value} (hxo:∀ v∈xs,v.oneCell'=true) (h:∀ j,j<16→∃ A n c,S j=.slice A n c):(lcA S 16 xs).all (·.oneCell')=true:=by
 unfold lcA lcL
 simp only [List.all_toArray,List.all_append,Bool.and_eq_true,List.all_map]
 refine ⟨List.all_eq_true.2 fun j hj=>?_,List.all_eq_true.2 hxo⟩
 have hj16:j<16:=by simpa using hj
 obtain ⟨A,n,c,e⟩:=h j hj16
 simp [hj16,e,Value.oneCell']
theorem lcA_size {S:Nat→Value} {m:Nat} {xs:List Value} (h:xs.length=8):(lcA S m xs).size=24:=by unfold lcA lcL;simp [h]
set_option maxRecDepth 100000 in
set_option maxHeartbeats 16000000 in
theorem cubBy_any {ims:List Im} {A:Option Addr} {n c lo:Nat} {w:World} (hn:ims.length=n) (hA:ImsAt w lo A ims) (k:Nat) (hk:k<ims.length) (hck:checkC ims[k].W ims[k].H ims[k].C ims[k].px.length=0) (mo c0 c1 c2 c3 u v:Int) (C:Nat) (hC:ims[k].C=C)
 (hby:∀ x y kk,0≤(pxM ims[k] mo c0 c1 c2 c3 x y).getD kk 0∧(pxM ims[k] mo c0 c1 c2 c3 x y).getD kk 0≤255)
 (hu:-70368744177664≤u∧u≤70368744177664) (hv:-70368744177664≤v∧v≤70368744177664) :
 Calls Tryz.prog 87 #[getV (.slice A n c) k ims[k].W ims[k].H mo c0 c1 c2 c3,.int .i64 C,.int .i64 u,.int .i64 v] w (OwnU ((List.range C).map (cubF (pxM ims[k] mo c0 c1 c2 c3) u v)) w):=by
 obtain ⟨hf,hl⟩:=ck_parts hck
 obtain ⟨hc,hw1,hw2,hh1,hh2,hp⟩:=fitsC_ok hf
 have hct:ims[k].C.toNat=C:=by omega
 have hJ:∀ (w':World) (x y:Int),Below w.heap.size w w'→(-70368744177664≤x∧x≤70368744177664)→(-70368744177664≤y∧y≤70368744177664)→Calls Tryz.prog 100 #[.agg (vwA (.slice A n c) k ims[k].W ims[k].H mo c0 c1 c2 c3),.int .i64 x,.int .i64 y] w' fun e w''=>∃ v,e=.returned v∧(∃ A n c,v=.slice A n c)∧SlP C w'.heap.size w'' v (pxM ims[k] mo c0 c1 c2 c3 x y)∧Below w'.heap.size w' w'':=fun w' x y hb hx hy=>by
  have:=(vpix_any (c:=c) hn (hA.nx hb (Nat.le_refl _)) k hk hck mo c0 c1 c2 c3 x y ⟨by omega,by omega⟩ ⟨by omega,by omega⟩).mono (fun e w'' h=>h.sl)
  rw [hct] at this
  exact this
 have hLk:=clook_any (.agg (vwA (.slice A n c) k ims[k].W ims[k].H mo c0 c1 c2 c3)) (pxM ims[k] mo c0 c1 c2 c3) C u v w hu hv hJ
 have iu:inF u=true:=inF_iff.2 hu
 have iv:inF v=true:=inF_iff.2 hv
 have hin:=fun (w':World)=>cubic_in u w'
 have hin2:=fun (w':World)=>cubic_in v w'
 rw [iu] at hin
 rw [iv] at hin2
 have hmk:=fun W=>run_make1 (P:=Tryz.prog) Tryz.underlying22 u8_info rfl (C:Int) C rfl (by omega) (by omega) W
 have hC1:¬((C:Int)<1):=by omega
 have hc4:C≤4:=by omega
 have hF:∀ (S:Nat→Value) (w':World) (kk:Nat),kk<C→(∀ j,j<16→SlP C 0 w' (S j) (pxM ims[k] mo c0 c1 c2 c3 (u/65536-1+(j%4:Nat)) (v/65536-1+(j/4:Nat))))→Calls Tryz.prog 162 #[.agg (lcA S 16 (xyL (u%65536/256) (v%65536/256))),.int .i64 kk] w' fun e w''=>e=.returned (.int .u8 (cubF (pxM ims[k] mo c0 c1 c2 c3) u v kk))∧Below w'.heap.size w' w'':=fun S w' kk hkk hS =>
  cchan_any S (u%65536/256) (v%65536/256) C kk (fun j=>pxM ims[k] mo c0 c1 c2 c3 (u/65536-1+(j%4:Nat)) (v/65536-1+(j/4:Nat))) w' hS hkk (by omega) (by omega) (fun j=>hby _ _ _)
 have hxo:∀ z∈xyL (u%65536/256) (v%65536/256),z.oneCell'=true:=by simp [Value.oneCell']
 have hxl:(xyL (u%65536/256) (v%65536/256)).length=8:=rfl
 generalize xyL (u%65536/256) (v%65536/256)=xs at *
 clear hf hl hp hu hv iu iv hJ hby
 generalize cubF (pxM ims[k] mo c0 c1 c2 c3) u v=F at *
 generalize pxM ims[k] mo c0 c1 c2 c3=px at *
 generalize ims[k]=m at *
 have hq:=eql_get (.func 100) #[.agg (vwA (.slice A n c) k m.W m.H mo c0 c1 c2 c3)] #[]
 clear hct hC hc hck hw1 hw2 hh1 hh2 hA hn
 generalize m.W=W at *
 generalize m.H=H at *
 go_enter Tryz.func87,Tryz.ntmps87
 go_wp2_with (first
  | (go_at_call 160;(with_reducible refine (hin _).mono ?_);rintro e w1 ⟨rfl,rfl⟩)
  | (go_at_call 160;(with_reducible refine (hin2 _).mono ?_);rintro e w1 ⟨rfl,rfl⟩)
  | (go_at_call 161;(with_reducible refine hLk.mono ?_);rintro e w3 ⟨S,rfl,hS,hb3⟩;have hK3:=Bk.new w3 219 zer24;have hsz:=(lcA_size (S:=S) (m:=16) hxl);have hone:=lcA_one hxo (fun j hj=>(hS j hj).1))
  | (refine stB rfl _ _ _ rfl hK3 (lcA S 16 xs) rfl rfl (by rw [hsz];exact ar_size24) (by rw [hsz];rfl) hone ?_;intro w4 hK4 hg4 hs4))
 clear hin hin2 hLk hmk hq hK3
 have hb34:Below w3.heap.size w3 w4:=below_of_gb ((Below.refl w3.heap.size w3).alloc (Nat.le_refl _) (.cells zer24 219)) hg4 (Nat.le_refl _) (by simp)
 have hz3:=hb3.size
 have hb4:=hb3.trans (hb34.mono hz3)
 have hS4:∀ j,j<16→SlP C 0 w4 (S j) (px (u/65536-1+(j%4:Nat)) (v/65536-1+(j/4:Nat))):=fun j hj=>((hS j hj).2.less (Nat.zero_le _)).nx hb34
 have hF':=fun w' kk hkk hb=>hF S w' kk hkk (fun j hj=>(hS4 j hj).nx hb)
 obtain ⟨arr,harr⟩:∃ arr,lcA S 16 xs=arr:=⟨_,rfl⟩
 rw [harr] at hK4 hsz hone hF'
 clear harr hF hS hS4
 obtain ⟨g9,hg9⟩:∃ g9,w3.heap.size=g9:=⟨_,rfl⟩
 rw [hg9] at hK4
 simp only [hg9]
 have hz4:=hb4.size
 have hl9:=hK4.lt
 have e4:w4.heap.size=g9+1:=by rw [← hg9];simpa using hs4
 clear hg9 hg4 hs4
 have hK0:Bk (w4.alloc (.cells (Array.replicate C (.int .u8 0)) 5)) (g9+1) 5 (rowA F C 0):=by rw [rowA_zero,← e4];exact Bk.new _ _ _
 have hb5:=(Below.refl w4.heap.size w4).alloc (Nat.le_refl _) (.cells (Array.replicate C (.int .u8 0)) 5)
 go_loopw [36] (fun iv wr=>∃ k:Nat,k≤C∧iv=.int .i64 k∧Bk wr (g9+1) 5 (rowA F C k)∧Below w4.heap.size w4 wr) (fun iv _=>C-(intOf iv).toNat)
 case atStart=>exact ⟨0,by omega,rfl,hK0,hb5⟩
 case round =>
  clear hK0 hb5
  obtain ⟨k,hk,rfl,hKr,hbr⟩:=hrel
  by_cases hlt:k<C
  ·have hCh:=hF' wr k hlt hbr
   have k9:Bk wr g9 219 arr:=hK4.nx hbr
   go_wp2_with (first
    | (refine ldB rfl _ _ rfl k9 rfl Tryz.underlying219 rfl (by rw [hsz];exact ar_size24) ?_)
    | (go_at_call 162;(with_reducible refine hCh.mono ?_);rintro e w6 ⟨rfl,hb6⟩;have k6:=hKr.nx hb6;have d0:=(k6.cell k).trans (rowA_get F C k k hlt);have f0:=k6.frozen k))
   exact ⟨⟨k+1,by omega,by go_num,by rw [← rowA_up F C k hlt];exact k6.set k _,(hbr.trans (hb6.mono hbr.size)).setCell (by rw [e4];exact Nat.le_refl _) _⟩,by simp [intOf];omega⟩
  ·obtain rfl:k=C:=by omega
   rw [rowA_end] at hKr
   go_wp2_with fail
   go_returns
   refine ⟨_,rfl,?_,hb4.trans (hbr.mono hz4)⟩
   simpa using own_of_Bk (base:=w.heap.size) hKr k (by simp) (by omega) (by omega)
end Go.Proofs.YtjbelhpgbcnlmaaGreat
end
end
