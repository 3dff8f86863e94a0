/- Several texts in one: Several texts in one: turn: where a place comes from. turn: At; and the reference's turn. xform: kinds and their names. xform: the kind of a name. Several texts in one: xform: New, of an affine one. xform: New of none; At of an affine one; Whole. xform: New and At of the kinds 2 to 6, by the package's own. (Printed by wip/tools/genpx.py.) xform: New and At of the kind homog, by its package's own. (Printed by wip/tools/genpx.py.) -/
import Derived.Test.YtjbelhpgbcnlmaaGreatSamplePixelsZz15
import Derived.Deep.RegionHeld3
import Derived.Test.YtjbelhpgbcnlmaaGreatSamplePixelsZz1
import Derived.Test.YtjbelhpgbcnlmaaGreatSamplePixelsZz16
import Derived.Laws.EntriesVeiled
section
section
set_option linter.unusedVariables false
namespace Go.Proofs.YtjbelhpgbcnlmaaGreat
open Go.RowKit
abbrev plV (x y W H:Int):Value:=.agg #[.int .i64 x,.int .i64 y,.int .i64 W,.int .i64 H]
abbrev plA (x y W H:Int):Array Value:=#[.int .i64 x,.int .i64 y,.int .i64 W,.int .i64 H]
def Nr (x:Int):Prop:=-1099511627776≤x∧x≤1099511627776
set_option maxHeartbeats 1000000 in
theorem pnone_any (x y W H:Int) (w:World) (h1:Nr x) (h2:Nr y) (h3:Nr W) (h4:Nr H):Calls Tryz.prog 332 #[plV x y W H] w fun e w'=>e=.returned (.tuple #[.int .i64 x,.int .i64 y])∧Below w.heap.size w w':=by
 have hb:=(Below.refl w.heap.size w).alloc (Nat.le_refl _) (.cells (plA x y W H) 381)
 unfold Nr at *
 go_enter Tryz.func332,Tryz.ntmps332
 go_wp2_with fail
 go_quiet (fail)
 go_wp2_with fail
 go_returns
 exact ⟨rfl,below_drewN hb _⟩
set_option maxHeartbeats 1000000 in
theorem ponce_any (x y W H:Int) (w:World) (h1:Nr x) (h2:Nr y) (h3:Nr W) (h4:Nr H):Calls Tryz.prog 333 #[plV x y W H] w fun e w'=>e=.returned (.tuple #[.int .i64 y,.int .i64 (H-x)])∧Below w.heap.size w w':=by
 have hb:=(Below.refl w.heap.size w).alloc (Nat.le_refl _) (.cells (plA x y W H) 381)
 unfold Nr at *
 have e1:IntKind.i64.wrap (H-x)=H-x:=IntWalk.i64_in _ ⟨by omega,by omega⟩
 go_enter Tryz.func333,Tryz.ntmps333
 go_wp2_with fail
 go_quiet (fail)
 go_wp2_with fail
 go_returns
 exact ⟨rfl,below_drewN hb _⟩
set_option maxHeartbeats 1000000 in
theorem ptwice_any (x y W H:Int) (w:World) (h1:Nr x) (h2:Nr y) (h3:Nr W) (h4:Nr H):Calls Tryz.prog 334 #[plV x y W H] w fun e w'=>e=.returned (.tuple #[.int .i64 (W-x),.int .i64 (H-y)])∧Below w.heap.size w w':=by
 have hb:=(Below.refl w.heap.size w).alloc (Nat.le_refl _) (.cells (plA x y W H) 381)
 unfold Nr at *
 have e1:IntKind.i64.wrap (W-x)=W-x:=IntWalk.i64_in _ ⟨by omega,by omega⟩
 have e2:IntKind.i64.wrap (H-y)=H-y:=IntWalk.i64_in _ ⟨by omega,by omega⟩
 go_enter Tryz.func334,Tryz.ntmps334
 go_wp2_with fail
 go_quiet (fail)
 go_wp2_with fail
 go_returns
 exact ⟨rfl,below_drewN hb _⟩
set_option maxHeartbeats 1000000 in
theorem pthrice_any (x y W H:Int) (w:World) (h1:Nr x) (h2:Nr y) (h3:Nr W) (h4:Nr H):Calls Tryz.prog 335 #[plV x y W H] w fun e w'=>e=.returned (.tuple #[.int .i64 (W-y),.int .i64 x])∧Below w.heap.size w w':=by
 have hb:=(Below.refl w.heap.size w).alloc (Nat.le_refl _) (.cells (plA x y W H) 381)
 unfold Nr at *
 have e1:IntKind.i64.wrap (W-y)=W-y:=IntWalk.i64_in _ ⟨by omega,by omega⟩
 go_enter Tryz.func335,Tryz.ntmps335
 go_wp2_with fail
 go_quiet (fail)
 go_wp2_with fail
 go_returns
 exact ⟨rfl,below_drewN hb _⟩
theorem qu_ix0 (w:World):(Instr.index 383 (.agg quA) (.int .i64 0)).run Tryz.prog w=.ok (.func (.func 332) #[] #[]) w:=by kernel_rfl
theorem qu_ix1 (w:World):(Instr.index 383 (.agg quA) (.int .i64 1)).run Tryz.prog w=.ok (.func (.func 333) #[] #[]) w:=by kernel_rfl
theorem qu_ix2 (w:World):(Instr.index 383 (.agg quA) (.int .i64 2)).run Tryz.prog w=.ok (.func (.func 334) #[] #[]) w:=by kernel_rfl
theorem qu_ix3 (w:World):(Instr.index 383 (.agg quA) (.int .i64 3)).run Tryz.prog w=.ok (.func (.func 335) #[] #[]) w:=by kernel_rfl
theorem keep2 {w w':World} {g i j:Nat} {u v:Value} (c:w.cell? ⟨g,i,none⟩=some u) (d:w.cell? ⟨g,j,none⟩=some v) (hg:g<w.heap.size) (hb:Below w.heap.size w w') :
 (w'.cell? ⟨g,i,none⟩=some u∧w'.cell? ⟨g,j,none⟩=some v)∧Below w.heap.size w w':=⟨⟨(hb.cell (p:=⟨g,i,none⟩) hg).trans c,(hb.cell (p:=⟨g,j,none⟩) hg).trans d⟩,hb⟩
set_option maxRecDepth 100000 in
set_option maxHeartbeats 8000000 in
theorem tfrom_any (q a b x y d:Int) (g:Nat) (w:World) (hK:Bk w g 325 #[.int .i64 q,.int .i64 a,.int .i64 b]) (hq:0≤q∧q≤7) (ha:1≤a∧a≤32768) (hb:1≤b∧b≤32768) (hx:-1048576≤x∧x≤1048576) (hy:-1048576≤y∧y≤1048576) (hd:1≤d∧d≤16) :
 Calls Tryz.prog 252 #[.pointer (some ⟨g,0,none⟩),.int .i64 x,.int .i64 y,.int .i64 d] w fun e w'=>e=.returned (.tuple #[.int .i64 (tuU q ((a-1)*d) ((b-1)*d) x y),.int .i64 (tuV q ((a-1)*d) ((b-1)*d) x y)])∧Below w.heap.size w w':=by
 have hb0:=Below.refl w.heap.size w
 have m1:=mulbd (a:=a-1) (b:=d) (A:=32768) (B:=16) (by omega) (by omega) (by omega) (by omega)
 have m2:=mulbd (a:=b-1) (b:=d) (A:=32768) (B:=16) (by omega) (by omega) (by omega) (by omega)
 have e1:IntKind.i64.wrap (a-1)=a-1:=IntWalk.i64_in _ ⟨by omega,by omega⟩
 have e2:IntKind.i64.wrap (b-1)=b-1:=IntWalk.i64_in _ ⟨by omega,by omega⟩
 have e3:IntKind.i64.wrap ((a-1)*d)=(a-1)*d:=IntWalk.i64_in _ ⟨by omega,by omega⟩
 have e4:IntKind.i64.wrap ((b-1)*d)=(b-1)*d:=IntWalk.i64_in _ ⟨by omega,by omega⟩
 obtain ⟨W,hW⟩:∃ W,(a-1)*d=W:=⟨_,rfl⟩
 obtain ⟨H,hH⟩:∃ H,(b-1)*d=H:=⟨_,rfl⟩
 replace e3:=e3.trans hW
 replace e4:=e4.trans hH
 rw [hW] at m1 ⊢
 rw [hH] at m2 ⊢
 have hWn:Nr W:=by unfold Nr;omega
 have hF0:=fun w'=>pnone_any x y W H w' (by unfold Nr;omega) (by unfold Nr;omega) (by unfold Nr;omega) (by unfold Nr;omega)
 have hF1:=fun w'=>ponce_any x y W H w' (by unfold Nr;omega) (by unfold Nr;omega) (by unfold Nr;omega) (by unfold Nr;omega)
 have hF2:=fun w'=>ptwice_any x y W H w' (by unfold Nr;omega) (by unfold Nr;omega) (by unfold Nr;omega) (by unfold Nr;omega)
 have hF3:=fun w'=>pthrice_any x y W H w' (by unfold Nr;omega) (by unfold Nr;omega) (by unfold Nr;omega) (by unfold Nr;omega)
 have hQ:=fun w'=>quarters_any w'
 clear hW hH ha hb m1 m2
 obtain ⟨c0,c1,c2⟩:=hK.cell3
 go_enter Tryz.func252,Tryz.ntmps252
 go_wp2_with fail
 have hlt:=hK.lt
 go_region_held3 (fun w'=>(w'.cell? ⟨g,1,none⟩=some (.int .i64 a)∧w'.cell? ⟨g,2,none⟩=some (.int .i64 b))∧Below w.heap.size w w')
  ((refine keep2 c1 c2 hlt ?_;go_grown))
  (fail)
 rename_i hHeld
 clear hHeld
 have hL:=((Lie.start w).alloc (plA x y W H) 381).drew
 have hG:=(hK.alloc (.cells (plA x y W H) 381)).drew
 have hbw:=hL.bel
 have kp:Bk _ w.heap.size 381 (plA x y W H):=hL.k 0 (by simp)
 generalize hpl:w.heap.size=gp at *
 generalize (w.alloc (.cells (plA x y W H) 381)).drew=w1 at *
 clear e1 e2 e3 e4 c0 c1 c2 hlt hK hL hb0
 obtain ⟨c0,c1,c2⟩:=hG.cell3
 have hq8:q=0∨q=1∨q=2∨q=3∨q=4∨q=5∨q=6∨q=7:=by omega
 clear hq
 rcases hq8 with rfl|rfl|rfl|rfl|rfl|rfl|rfl|rfl
 all_goals
  have k0:=fun (n:Nat) (os:Array Obj)=>cell_regrown c0 n os
  have i0:=qu_ix0
  have i1:=qu_ix1
  have i2:=qu_ix2
  have i3:=qu_ix3
  go_wp2_with fail
  refine wp_region_quiet_below (by kernel_rfl) (by kernel_rfl) ?_
  repeat (first
   | (refine wpQuiet_load rfl _ _ rfl kp rfl Tryz.underlying381 rfl (by kernel_rfl) ?_;simp only [Act.put,List.setIfInBounds_toArray,List.set_cons_zero,List.set_cons_succ])
   | go_big_quiet_step ((first | with_reducible exact quiet_below (hQ _)|with_reducible exact quiet_below (hF0 _)|with_reducible exact quiet_below (hF1 _)|with_reducible exact quiet_below (hF2 _)|with_reducible exact quiet_below (hF3 _)))
   | quiet_step ((first | with_reducible exact quiet_below (hQ _)|with_reducible exact quiet_below (hF0 _)|with_reducible exact quiet_below (hF1 _)|with_reducible exact quiet_below (hF2 _)|with_reducible exact quiet_below (hF3 _))))
  refine wpQuiet_nil ?_
  intro _ hw'
  obtain ⟨⟨d9,os⟩,hw''⟩:=hw'
  subst hw''
  have hbx:=below_regrown w1 d9 os
  generalize Go.Sort.grow (redrawn w1 d9) os=wx at *
  have hbz:Below w.heap.size w wx:=by rw [hpl];exact hbw.trans (hbx.mono (by rw [← hpl];exact hbw.size))
  replace kp:=kp.nx hbx
  replace hG:=hG.nx hbx
  clear k0 i0 i1 i2 i3 c0 c1 c2 hF0 hF1 hF2 hF3 hQ hbw hbx hpl
  obtain ⟨c0,c1,c2⟩:=hG.cell3
  obtain ⟨p0,p1,p2,p3⟩:=kp.cell4
  unfold Nr at hWn
  obtain ⟨n0,n1⟩:=hWn
  go_wp2_with fail
  go_returns
  exact ⟨ret_t2 (by simp [tuU,tu0]) (by simp [tuV]),hbz⟩
def tuPx (l:List Int) (px py d:Int):Int:=tuU (cf l 0) ((cf l 1-1)*d) ((cf l 2-1)*d) px py
def tuPy (l:List Int) (px py d:Int):Int:=tuV (cf l 0) ((cf l 1-1)*d) ((cf l 2-1)*d) px py
theorem tuP_bd {l:List Int} {px py d:Int} (h:TuOk l) (hp:rightH px py d=true):(-4194304≤tuPx l px py d∧tuPx l px py d≤4194304)∧(-4194304≤tuPy l px py d∧tuPy l px py d≤4194304):=by
 have hp:=rightH_iff.1 hp
 have h1:=h.w
 have h2:=h.h
 have m1:=mulbd (a:=cf l 1-1) (b:=d) (A:=32768) (B:=16) (by omega) (by omega) (by omega) (by omega)
 have m2:=mulbd (a:=cf l 2-1) (b:=d) (A:=32768) (B:=16) (by omega) (by omega) (by omega) (by omega)
 unfold tuPx tuPy tuU tuV tu0
 generalize (cf l 1-1)*d=W at *
 generalize (cf l 2-1)*d=H at *
 constructor
 ·split <;> (split <;> (try split) <;> (try split) <;> omega)
 ·split <;> (try split) <;> (try split) <;> omega
end Go.Proofs.YtjbelhpgbcnlmaaGreat
end
section
set_option linter.unusedVariables false
namespace Go.Proofs.YtjbelhpgbcnlmaaGreat
open Go.RowKit
set_option maxRecDepth 100000 in
set_option maxHeartbeats 8000000 in
theorem tat_nil (x y d:Int) (w:World):Calls Tryz.prog 174 #[.pointer none,.int .i64 x,.int .i64 y,.int .i64 d] w fun e w' =>
 e=.returned (.tuple #[.int .i64 0,.int .i64 0,.int .i64 10])∧w=w':=by
 go_enter Tryz.func174,Tryz.ntmps174
 go_wp2_with fail
 go_returns
 exact ⟨rfl,rfl⟩
theorem right_cases2 (px py d:Int):(rightH px py d=true∧(-1048576≤px∧px≤1048576)∧(-1048576≤py∧py≤1048576)∧1≤d∧d≤16)∨(rightH px py d=false∧((px < -1048576)∨(-1048576≤px∧1048576<px)∨(-1048576≤px∧px≤1048576∧py < -1048576)∨(-1048576≤px∧px≤1048576∧-1048576≤py∧1048576<py)∨(-1048576≤px∧px≤1048576∧-1048576≤py∧py≤1048576∧d<1)∨(-1048576≤px∧px≤1048576∧-1048576≤py∧py≤1048576∧1≤d∧16<d))):=by
 cases h:rightH px py d
 ·right
  have h':¬rightH px py d=true:=by rw [h];simp
  rw [rightH_iff] at h'
  exact ⟨rfl,by omega⟩
 ·left
  exact ⟨rfl,rightH_iff.1 h⟩
def tuAns (l:List Int) (px py d:Int):Value:=if rightH px py d=true then .tuple #[.int .i64 (65536*tuPx l px py d/d),.int .i64 (65536*tuPy l px py d/d),.int .i64 0] else .tuple #[.int .i64 0,.int .i64 0,.int .i64 11]
set_option maxRecDepth 100000 in
set_option maxHeartbeats 8000000 in
theorem tat_any (l:List Int) (g:Nat) (px py d:Int) (w:World) (hK:Bk w g 325 (tuA l)) (h:TuOk l) :
 Calls Tryz.prog 174 #[.pointer (some ⟨g,0,none⟩),.int .i64 px,.int .i64 py,.int .i64 d] w fun e w' =>
  e=.returned (tuAns l px py d)∧Below w.heap.size w w':=by
 have hb0:=Below.refl w.heap.size w
 rcases right_cases2 px py d with ⟨hp,⟨a0,a1⟩,⟨a2,a3⟩,a4,a5⟩|⟨hp,hc⟩
 ·have HA:Hid (tuAns l px py d=.tuple #[.int .i64 (65536*tuPx l px py d/d),.int .i64 (65536*tuPy l px py d/d),.int .i64 0]):=by show _=_;unfold tuAns;rw [if_pos hp]
  obtain ⟨⟨b0,b1⟩,b2,b3⟩:=tuP_bd h hp
  have hF:=tfrom_any (cf l 0) (cf l 1) (cf l 2) px py d g w hK h.q h.w h.h ⟨a0,a1⟩ ⟨a2,a3⟩ ⟨a4,a5⟩
  simp only [← tuPx.eq_1,← tuPy.eq_1] at hF
  clear hp h hK
  generalize tuPx l px py d=U at *
  generalize tuPy l px py d=V at *
  have hQ1:=fun w'=>qfloor_any (65536*U) d w' a4 (by omega) ⟨by omega,by omega⟩
  have hQ2:=fun w'=>qfloor_any (65536*V) d w' a4 (by omega) ⟨by omega,by omega⟩
  go_enter Tryz.func174,Tryz.ntmps174
  go_wp2_with fail
  refine hF.mono ?_
  rintro e w1 ⟨rfl,hb1⟩
  go_wp2_with fail
  refine (hQ1 _).mono ?_
  rintro e w2 ⟨rfl,rfl⟩
  go_wp2_with fail
  refine (hQ2 _).mono ?_
  rintro e w2 ⟨rfl,rfl⟩
  go_wp2_with fail
  go_returns
  exact ⟨by rw [HA.out];rfl,hb1⟩
 ·have HA:Hid (tuAns l px py d=.tuple #[.int .i64 0,.int .i64 0,.int .i64 11]):=by show _=_;unfold tuAns;rw [if_neg (by rw [hp];simp)]
  clear hp h
  rcases hc with h0|⟨h0,h1⟩|⟨h0,h1,h2⟩|⟨h0,h1,h2,h3⟩|⟨h0,h1,h2,h3,h4⟩|⟨h0,h1,h2,h3,h4,h5⟩
  all_goals
   go_enter Tryz.func174,Tryz.ntmps174
   go_wp2_with fail
   go_returns
   exact ⟨by rw [HA.out];rfl,hb0⟩
set_option maxRecDepth 100000 in
set_option maxHeartbeats 8000000 in
theorem rfrom23 (l:List Int) (A:Option Addr) (cp:Nat) (x y d:Int) (w:World) {B:Nat} (h:TuOk l) (hr:Rd w B A (l.map (Value.int .i64))) (hx:-1048576≤x∧x≤1048576) (hy:-1048576≤y∧y≤1048576) (hd:1≤d∧d≤16) :
 Calls Tryz.prog 195 #[.slice A 3 cp,.int .i64 x,.int .i64 y,.int .i64 d] w fun e w'=>e=.returned (.tuple #[.int .i64 (tuPx l x y d),.int .i64 (tuPy l x y d)])∧w=w':=by
 obtain ⟨b,o,rfl,hb,c0,hc⟩:=lget h.len (by decide) hr
 have c1:=hc 1 (by decide)
 have c2:=hc 2 (by decide)
 have hq:=h.q
 have ha:=h.w
 have hb:=h.h
 unfold tuPx tuPy
 clear hc hr h
 generalize cf l 0=q at *
 generalize cf l 1=a at *
 generalize cf l 2=b' at *
 have m1:=mulbd (a:=a-1) (b:=d) (A:=32768) (B:=16) (by omega) (by omega) (by omega) (by omega)
 have m2:=mulbd (a:=b'-1) (b:=d) (A:=32768) (B:=16) (by omega) (by omega) (by omega) (by omega)
 obtain ⟨m10,m11⟩:=m1
 obtain ⟨m20,m21⟩:=m2
 have hq8:q=0∨q=1∨q=2∨q=3∨q=4∨q=5∨q=6∨q=7:=by omega
 clear hq
 rcases hq8 with rfl|rfl|rfl|rfl|rfl|rfl|rfl|rfl
 all_goals
  go_enter Tryz.func195,Tryz.ntmps195
  go_wp2_with fail
  go_returns
  exact ⟨ret_t2 (by simp [tuU,tu0]) (by simp [tuV]),rfl⟩
set_option maxHeartbeats 4000000 in
theorem rat23 (l:List Int) (A:Option Addr) (cp:Nat) (x y d:Int) (w:World) {B:Nat} (h:TuOk l) (hr:Rd w B A (l.map (Value.int .i64))) (hp:rightH x y d=true) :
 Calls Tryz.prog 120 #[.slice A 3 cp,.int .i64 x,.int .i64 y,.int .i64 d] w fun e w'=>e=.returned (.tuple #[.int .i64 (65536*tuPx l x y d/d),.int .i64 (65536*tuPy l x y d/d)])∧w=w':=by
 obtain ⟨⟨b0,b1⟩,b2,b3⟩:=tuP_bd h hp
 obtain ⟨a0,a1,a2,a3⟩:=rightH_iff.1 hp
 have hF:=rfrom23 l A cp x y d w h hr a0 a1 ⟨a2,a3⟩
 clear hp h hr
 generalize tuPx l x y d=U at *
 generalize tuPy l x y d=V at *
 have hD1:=fun w'=>rdown_any (65536*U) d w' a2 ⟨by omega,by omega⟩ (by omega)
 have hD2:=fun w'=>rdown_any (65536*V) d w' a2 ⟨by omega,by omega⟩ (by omega)
 go_enter Tryz.func120,Tryz.ntmps120
 go_wp2_with fail
 refine hF.mono ?_
 rintro e w1 ⟨rfl,rfl⟩
 go_wp2_with fail
 refine (hD1 _).mono ?_
 rintro e w2 ⟨rfl,rfl⟩
 go_wp2_with fail
 refine (hD2 _).mono ?_
 rintro e w2 ⟨rfl,rfl⟩
 go_wp2_with fail
 go_returns
 exact ⟨rfl,rfl⟩
end Go.Proofs.YtjbelhpgbcnlmaaGreat
end
section
set_option linter.unusedVariables false
namespace Go.Proofs.YtjbelhpgbcnlmaaGreat
open Go.RowKit
def sAffine:ByteArray:=⟨#[97,102,102,105,110,101]⟩
def sHomog:ByteArray:=⟨#[104,111,109,111,103]⟩
def sLens:ByteArray:=⟨#[108,101,110,115]⟩
def sMesh:ByteArray:=⟨#[109,101,115,104]⟩
def sShear:ByteArray:=⟨#[115,104,101,97,114]⟩
def sTurn:ByteArray:=⟨#[116,117,114,110]⟩
abbrev kiA:Array Value:=#[.string ⟨#[]⟩,.int .i64 0,.nilFunc,
 .string sAffine,.int .i64 6,.func (.func 89) #[] #[],
 .string sHomog,.int .i64 9,.func (.func 90) #[] #[],
 .string sLens,.int .i64 7,.func (.func 91) #[] #[],
 .string sMesh,.int .i64 0,.func (.func 92) #[] #[],
 .string sShear,.int .i64 4,.func (.func 93) #[] #[],
 .string sTurn,.int .i64 3,.func (.func 94) #[] #[]]
set_option maxRecDepth 100000 in
theorem kinds_any (w:World):Calls Tryz.prog 45 #[] w fun e w'=>e=.returned (.slice (some ⟨w.heap.size,0,none⟩) 7 7)∧w.alloc (.cells kiA 104)=w':=by
 go_enter Tryz.func45,Tryz.ntmps45
 go_wp2_with fail
 go_returns
 exact ⟨rfl,rfl⟩
theorem xis_any (k:Int) (w:World):Calls Tryz.prog 44 #[.int .i64 k] w fun e w'=>e=.returned (.bool (decide (1≤k∧k≤6)))∧w=w':=by
 by_cases h:1≤k
 all_goals
  go_enter Tryz.func44,Tryz.ntmps44
  go_wp2
  go_returns
  exact ⟨ret_bool (by simp <;> omega),rfl⟩
def xnm (k:Int):ByteArray:=if k=1 then sAffine else if k=2 then sHomog else if k=3 then sLens else if k=4 then sMesh else if k=5 then sShear else if k=6 then sTurn else ⟨#[]⟩
def xct (k:Int):Int:=if k=1 then 6 else if k=2 then 9 else if k=3 then 7 else if k=4 then 0 else if k=5 then 4 else if k=6 then 3 else 0
theorem six {k:Int} (h:1≤k∧k≤6):k=1∨k=2∨k=3∨k=4∨k=5∨k=6:=by omega
theorem not_six (k:Int) (h:¬(1≤k∧k≤6)):k<1∨(1≤k∧6<k):=by omega
theorem neq_func (F:Fn) (bs fr:Array Value) (w:World):(binOp .neq 102 (.func F bs fr) .nilFunc).run Tryz.prog w=.ok (.bool true) w:=by
 first | kernel_rfl|rfl
theorem neq_func0 (w:World):(binOp .neq 102 .nilFunc .nilFunc).run Tryz.prog w=.ok (.bool false) w:=by
 first | kernel_rfl|rfl
theorem eql_asked (F:Fn) (bs fr:Array Value) (w:World):(binOp .eql 98 (.func F bs fr) .nilFunc).run Tryz.prog w=.ok (.bool false) w:=by
 first | kernel_rfl|rfl
theorem eql_asked0 (w:World):(binOp .eql 98 .nilFunc .nilFunc).run Tryz.prog w=.ok (.bool true) w:=by
 first | kernel_rfl|rfl
end Go.Proofs.YtjbelhpgbcnlmaaGreat
end
section
set_option linter.unusedVariables false
namespace Go.Proofs.YtjbelhpgbcnlmaaGreat
open Go.RowKit
end Go.Proofs.YtjbelhpgbcnlmaaGreat
end
end
section
section
set_option linter.unusedVariables false
namespace Go.Proofs.YtjbelhpgbcnlmaaGreat
open Go.RowKit
theorem kinds_blk (w:World):Calls Tryz.prog 45 #[] w fun e w'=>e=.returned (.slice (some ⟨w.heap.size,0,none⟩) 7 7)∧Bk w' w.heap.size 104 kiA∧Below w.heap.size w w' :=
 (kinds_any w).mono fun e w' ⟨h1,h2⟩=>⟨h1,by rw [← h2];exact Bk.new w _ _,by rw [← h2];exact (Below.refl _ _).alloc (Nat.le_refl _) _⟩
set_option maxRecDepth 100000 in
set_option maxHeartbeats 4000000 in
theorem xaff_any (l:List Int) (A:Option Addr) (n cp:Nat) (m:Value) (w:World) {B:Nat} (hl:l.length=n) (hr:Rd w B A (l.map (Value.int .i64))) (hB:B≤w.heap.size) :
 Calls Tryz.prog 89 #[m,.slice A n cp] w fun e w'=>∃ p,e=.returned (.tuple #[.func (.func 164) #[.pointer p] #[],.int .i64 (afC l)])∧AfR l w w' p∧Below w.heap.size w w':=by
 have hA:=anew_any l A n cp w hl hr hB
 clear hl hr
 go_enter Tryz.func89,Tryz.ntmps89
 go_wp2_with fail
 refine hA.mono ?_
 rintro e w1 ⟨p,rfl,hR,hb⟩
 go_wp2_with fail
 go_returns
 exact ⟨p,rfl,hR,hb⟩
abbrev xfA (k W H:Int) (F g:Nat):Array Value:=#[.int .i64 k,.int .i64 W,.int .i64 H,.func (.func F) #[.pointer (some ⟨g,0,none⟩)] #[]]
set_option maxRecDepth 100000 in
set_option maxHeartbeats 8000000 in
theorem xnew_aff (l:List Int) (A:Option Addr) (n cp:Nat) (W H:Int) (w:World) (hl:l.length=n) (hr:Rd w w.heap.size A (l.map (Value.int .i64))) (hs:szH W H=true) :
 Calls Tryz.prog 14 #[xfV 1 A n cp,.int .i64 W,.int .i64 H] w fun e w'=>∃ p,e=.returned (.tuple #[.pointer p,.int .i64 (afC l)])∧(afC l≠0→p=none)∧(afC l=0→∃ q g,p=some ⟨q,0,none⟩∧w.heap.size≤q∧Bk w' q 100 (xfA 1 W H 164 g)∧w.heap.size≤g∧Bk w' g 286 (afA l))∧Below w.heap.size w w':=by
 obtain ⟨⟨s0,s1⟩,s2,s3⟩:=szH_iff.1 hs
 have hL:=((Lie.start w).alloc #[.int .i64 1,.slice A n cp] 32).alloc #[.int .i64 1,.int .i64 W,.int .i64 H,.nilFunc] 100
 simp only [World.size_alloc] at hL
 have hd:decide (1≤(1:Int)∧(1:Int)≤6)=true:=by decide
 clear hs
 go_enter Tryz.func14,Tryz.ntmps14
 go_wp2_with (first
  | (go_at_call 44;(with_reducible refine (xis_any _ _).mono ?_);rintro e w' ⟨rfl,rfl⟩;rw [hd]))
 generalize hw1:(w.alloc (.cells #[.int .i64 1,.slice A n cp] 32)).alloc (.cells #[.int .i64 1,.int .i64 W,.int .i64 H,.nilFunc] 100)=w1 at *
 have kt:Bk w1 w.heap.size 32 #[.int .i64 1,.slice A n cp]:=hL.k 1 (by simp)
 have hlt:=kt.lt
 obtain ⟨c0,c1⟩:=kt.cell2
 have hsz:=hL.sz
 have hAf:=fun (m:Value) (w':World) (hb:Below w1.heap.size w1 w')=>xaff_any l A n cp m w' hl (hL.rd hr (Nat.le_refl _) |>.below' hb hsz) (Nat.le_trans hsz hb.size)
 clear hw1
 have c0d:w1.drew.cell? ⟨w.heap.size,0,none⟩=some (.int .i64 1):=c0
 go_region_with (first
  | (go_at_call 45;(with_reducible refine (kinds_blk _).mono ?_);rintro e wk ⟨rfl,hKk,hbk'⟩;have hbk:Below w1.heap.size w1 wk:=Below.trans (by go_grown) (hbk'.mono (by first | exact Nat.le_refl _|simp));have kc:=hKk.cell 5;simp at kc;have d0:=(hbk.cell (p:=⟨w.heap.size,0,none⟩) hlt).trans c0;have d1:=(hbk.cell (p:=⟨w.heap.size,1,none⟩) hlt).trans c1)
  | (go_at_call 89;(with_reducible refine (hAf _ _ (by exact hbk)).mono ?_);rintro e wa ⟨p,rfl,hR,hba'⟩;have hba:Below w1.heap.size w1 wa:=hbk.trans (hba'.mono hbk.size)))
 all_goals
  have hLa:=hL.nx hba
  have km:Bk wa (w.heap.size+1) 100 #[.int .i64 1,.int .i64 W,.int .i64 H,.nilFunc]:=hLa.k 0 (by simp)
  have hlt2:w.heap.size+1<w1.heap.size:=(hL.k 0 (by simp)).lt
  have hkz:=hbk.size
  have hbw:=hLa.bel
  have hR1:=hR.1
  have hR2:=hR.2
  clear hL hLa hAf kt c0 c1 hl hr hd hba' hKk kc hR
  by_cases h1:afC l=0
  ·obtain ⟨g,rfl,hg,hKg⟩:=hR2 h1
   obtain ⟨d0,d1,d2,d3⟩:=km.cell4
   have f3:=km.frozen 3
   have kM:=km.set 3 (.func (.func 164) #[.pointer (some ⟨g,0,none⟩)] #[])
   simp only [List.setIfInBounds_toArray,List.set_cons_zero,List.set_cons_succ] at kM
   have hg2:w1.heap.size≤g:=by first | exact Nat.le_trans hkz hg|(simp at hg;omega)
   have kG:=hKg.far (p:=⟨w.heap.size+1,3,none⟩) (by simp;omega) (.func (.func 164) #[.pointer (some ⟨g,0,none⟩)] #[])
   have hbf:=hbw.setCell (p:=⟨w.heap.size+1,3,none⟩) (by simp) (.func (.func 164) #[.pointer (some ⟨g,0,none⟩)] #[])
   rw [h1]
   have HZ:=Lib.hid h1
   clear hR1 hR2 h1 hg hkz hKg km
   go_wp2_with fail
   go_returns
   exact ⟨_,by rw [HZ.out];rfl,fun h=>absurd HZ.out h,fun _=>⟨_,g,rfl,Nat.le_succ _,kM,by omega,kG⟩,hbf⟩
  ·obtain ⟨c,hc⟩:∃ c,afC l=c:=⟨_,rfl⟩
   rw [hc] at h1 ⊢
   have hb:(c != 0)=true:=by simp [h1]
   have hne:=Lib.hid h1
   have HC:=Lib.hid hc
   clear hR1 hR2 h1 km hc
   go_wp2_with fail
   go_returns
   exact ⟨none,by rw [HC.out];rfl,fun _=>rfl,fun h=>absurd (HC.out.symm.trans h) hne.out,hbw⟩
end Go.Proofs.YtjbelhpgbcnlmaaGreat
end
section
set_option linter.unusedVariables false
namespace Go.Proofs.YtjbelhpgbcnlmaaGreat
open Go.RowKit
set_option maxRecDepth 100000 in
set_option maxHeartbeats 4000000 in
theorem xnew_kind (k:Int) (A:Option Addr) (n cp:Nat) (W H:Int) (w:World) (hk:¬(1≤k∧k≤6)) :
 Calls Tryz.prog 14 #[xfV k A n cp,.int .i64 W,.int .i64 H] w fun e w'=>e=.returned (.tuple #[.pointer none,.int .i64 10])∧Below w.heap.size w w':=by
 have hd:decide (1≤k∧k≤6)=false:=decide_eq_false hk
 have hb:=(Below.refl w.heap.size w).alloc (Nat.le_refl _) (.cells #[.int .i64 k,.slice A n cp] 32)
 clear hk
 go_enter Tryz.func14,Tryz.ntmps14
 go_wp2_with (first
  | (go_at_call 44;(with_reducible refine (xis_any _ _).mono ?_);rintro e w' ⟨rfl,rfl⟩;rw [hd]))
 go_returns
 exact ⟨rfl,hb⟩
set_option maxRecDepth 100000 in
set_option maxHeartbeats 4000000 in
theorem xnew_size (k:Int) (A:Option Addr) (n cp:Nat) (W H:Int) (w:World) (hk:1≤k∧k≤6) (hs:szH W H=false) :
 Calls Tryz.prog 14 #[xfV k A n cp,.int .i64 W,.int .i64 H] w fun e w'=>e=.returned (.tuple #[.pointer none,.int .i64 30])∧Below w.heap.size w w':=by
 have hd:decide (1≤k∧k≤6)=true:=decide_eq_true hk
 have hb:=(Below.refl w.heap.size w).alloc (Nat.le_refl _) (.cells #[.int .i64 k,.slice A n cp] 32)
 rcases sz_cases W H with ⟨h,_⟩|⟨_,hc⟩
 ·rw [hs] at h;cases h
 clear hk hs
 rcases hc with h0|⟨h0,h1⟩|⟨h0,h1,h2⟩|⟨h0,h1,h2,h3⟩
 all_goals
  go_enter Tryz.func14,Tryz.ntmps14
  go_wp2_with (first
   | (go_at_call 44;(with_reducible refine (xis_any _ _).mono ?_);rintro e w' ⟨rfl,rfl⟩;rw [hd]))
  go_returns
  exact ⟨rfl,hb⟩
set_option maxRecDepth 100000 in
set_option maxHeartbeats 4000000 in
theorem xat_aff (l:List Int) (q g:Nat) (k W H x y d:Int) (w:World) (hM:Bk w q 100 (xfA k W H 164 g)) (hG:Bk w g 286 (afA l)) (hok:AfOk l) (hdt:dtA l≠0) :
 Calls Tryz.prog 48 #[.pointer (some ⟨q,0,none⟩),.int .i64 x,.int .i64 y,.int .i64 d] w fun e w' =>
  e=.returned (.tuple #[.int .i64 (afX l x y d),.int .i64 (afY l x y d),.int .i64 (afE x y d)])∧Below w.heap.size w w':=by
 have hA:=aat_any l g x y d w hG hok hdt
 obtain ⟨c0,c1,c2,c3⟩:=hM.cell4
 have hq:=eql_asked (.func 164) #[.pointer (some ⟨g,0,none⟩)] #[]
 clear hG hok hdt hM c0 c1 c2
 go_enter Tryz.func48,Tryz.ntmps48
 go_wp2_with fail
 refine hA.mono ?_
 rintro e w1 ⟨rfl,hb⟩
 go_wp2_with fail
 go_returns
 exact ⟨rfl,hb⟩
def unL:List Int:=[65536,0,0,0,65536,0]
theorem unit_any (w:World):Calls Tryz.prog 128 #[] w fun e w'=>e=.returned (.slice (some ⟨w.heap.size,0,none⟩) 6 6)∧Bk w' w.heap.size 2 #[.int .i64 65536,.int .i64 0,.int .i64 0,.int .i64 0,.int .i64 65536,.int .i64 0]∧Below w.heap.size w w':=by
 have hb:=(Below.refl w.heap.size w).alloc (Nat.le_refl _) (.cells #[.int .i64 65536,.int .i64 0,.int .i64 0,.int .i64 0,.int .i64 65536,.int .i64 0] 2)
 have hK:=Bk.new w 2 #[.int .i64 65536,.int .i64 0,.int .i64 0,.int .i64 0,.int .i64 65536,.int .i64 0]
 go_enter Tryz.func128,Tryz.ntmps128
 go_wp2
 go_returns
 exact ⟨rfl,hK,hb⟩
theorem xf_size:(Tryz.prog.info? 32).map (·.size)=some 2:=by kernel_rfl
set_option maxRecDepth 100000 in
set_option maxHeartbeats 4000000 in
theorem whole_no (W H:Int) (w:World) (hs:szH W H=false):Calls Tryz.prog 68 #[.int .i64 W,.int .i64 H] w fun e w'=>e=.returned (xfV 0 none 0 0)∧Below w.heap.size w w':=by
 have hL:=(Lie.start w).alloc #[.int .i64 0,.slice none 0 0] 32
 have hK:=hL.k 0 (by simp)
 rcases sz_cases W H with ⟨h,_⟩|⟨_,hc⟩
 ·rw [hs] at h;cases h
 clear hs
 rcases hc with h0|⟨h0,h1⟩|⟨h0,h1,h2⟩|⟨h0,h1,h2,h3⟩
 all_goals
  go_enter Tryz.func68,Tryz.ntmps68
  go_wp2_with (refine stB (ty:=32) (cells:=#[.int .i64 0,.slice none 0 0]) rfl _ _ rfl hK rfl rfl xf_size rfl (by simp [Value.oneCell']) ?_;intro w' hK' hg' _)
  refine bodyPost_ret (res_cell rfl hK' rfl Tryz.underlying32 rfl xf_size) rfl ?_
  exact ⟨rfl,below_of_gb hL.bel hg' (Nat.le_refl _) hL.sz⟩
set_option maxRecDepth 100000 in
set_option maxHeartbeats 4000000 in
theorem whole_yes (W H:Int) (w:World) (hs:szH W H=true):Calls Tryz.prog 68 #[.int .i64 W,.int .i64 H] w fun e w'=>∃ b,e=.returned (xfV 1 (some ⟨b,0,none⟩) 6 6)∧Bk w' b 2 #[.int .i64 65536,.int .i64 0,.int .i64 0,.int .i64 0,.int .i64 65536,.int .i64 0]∧Below w.heap.size w w':=by
 have hL:=(Lie.start w).alloc #[.int .i64 0,.slice none 0 0] 32
 obtain ⟨⟨s0,s1⟩,s2,s3⟩:=szH_iff.1 hs
 clear hs
 go_enter Tryz.func68,Tryz.ntmps68
 go_wp2_with (first
  | (go_at_call 128;(with_reducible refine (unit_any _).mono ?_);rintro e w1 ⟨rfl,hU,hb1⟩;have hL1:=hL.nx hb1;have k1:Bk w1 w.heap.size 32 #[.int .i64 0,.slice none 0 0]:=hL1.k 0 (by simp))
  | (refine stB (ty:=32) (cells:=#[.int .i64 1,.slice (some ⟨w.heap.size+1,0,none⟩) 6 6]) rfl _ _ rfl k1 rfl rfl xf_size rfl (by simp [Value.oneCell']) ?_;intro w2 hK2 hg2 _))
 refine bodyPost_ret (res_cell rfl hK2 rfl Tryz.underlying32 rfl xf_size) rfl ?_
 exact ⟨_,rfl,by have h2:=hU.grown hg2 (by intro e;injection e with e;simp at e);simpa using h2,below_of_gb hL1.bel hg2 (Nat.le_refl _) hL1.sz⟩
end Go.Proofs.YtjbelhpgbcnlmaaGreat
end
end
section
set_option linter.unusedVariables false
namespace Go.Proofs.YtjbelhpgbcnlmaaGreat
open Go.RowKit
def AtFn (f:FuncId) (lo hi:Nat) (w:World) (p:Option Addr) (F G E:Int→Int→Int→Int):Prop :=
 ∀ w':World,hi≤w'.heap.size→(∀ i,lo≤i→i<hi→w'.heap[i]?=w.heap[i]?)→∀ x y d,Calls Tryz.prog f #[.pointer p,.int .i64 x,.int .i64 y,.int .i64 d] w' fun e w''=>e=.returned (.tuple #[.int .i64 (F x y d),.int .i64 (G x y d),.int .i64 (E x y d)])∧Below w'.heap.size w' w''
theorem newMp_aff (l:List Int) (A:Option Addr) (n cp:Nat) (W H:Int) (w:World) (hl:l.length=n) (hr:Rd w w.heap.size A (l.map (Value.int .i64))) (hs:szH W H=true) :
 NewMp 1 A n cp W H w (afC l) (afX l) (afY l) afE:=by
 intro w' hb
 refine (xnew_aff l A n cp W H w' hl ((hr.below hb).more hb.size) hs).mono ?_
 rintro e w'' ⟨p,rfl,h1,h2,hb2⟩
 refine ⟨p,rfl,h1,fun hz=>?_,hb2⟩
 obtain ⟨q,g,rfl,hq,hM,hg,hG⟩:=h2 hz
 refine ⟨fun w3 hs3 hk x y d=>?_,q,rfl,hq,_,hM⟩
 have hok:=afC_zero.1 hz
 exact xat_aff l q g 1 W H x y d w3 (hM.same (hk q hq hM.lt)) (hG.same (hk g hg hG.lt)) hok.1 hok.2
def PkR (f:FuncId) (C:Int) (F G E:Int→Int→Int→Int) (w w':World) (p:Option Addr):Prop:=C=0→∃ g,p=some ⟨g,0,none⟩∧w.heap.size≤g∧AtFn f w.heap.size w'.heap.size w' p F G E
end Go.Proofs.YtjbelhpgbcnlmaaGreat
end
section
set_option linter.unusedVariables false
namespace Go.Proofs.YtjbelhpgbcnlmaaGreat
open Go.RowKit
set_option maxRecDepth 100000 in
set_option maxHeartbeats 4000000 in
theorem xm_homog (A:Option Addr) (n cp:Nat) (W H C:Int) (F G E:Int→Int→Int→Int) (q:Nat) (w:World) (hK:Bk w q 100 #[.int .i64 2,.int .i64 W,.int .i64 H,.nilFunc])
 (hN:∀ w',Below w.heap.size w w'→Calls Tryz.prog 165 #[.slice A n cp,.int .i64 W,.int .i64 H] w' fun e w''=>∃ p,e=.returned (.tuple #[.pointer p,.int .i64 C])∧PkR 166 C F G E w' w'' p∧Below w'.heap.size w' w'') :
 Calls Tryz.prog 90 #[.pointer (some ⟨q,0,none⟩),.slice A n cp] w fun e w'=>∃ p,e=.returned (.tuple #[.func (.func 166) #[.pointer p] #[],.int .i64 C])∧PkR 166 C F G E w w' p∧Below w.heap.size w w':=by
 have hR:=Below.refl w.heap.size w
 obtain ⟨c0,c1,c2,c3⟩:=hK.cell4
 have hN':=hN w.drew hR.drew
 have hN0:=hN w hR
 clear c0 c3 hK hN
 go_enter Tryz.func90,Tryz.ntmps90
 go_wp2_with fail
 go_region_with ((go_at_call 165;(with_reducible refine hN'.mono ?_);rintro e w1 ⟨p,rfl,hP,hb'⟩))
 all_goals
  have hb:Below w.heap.size w w1:=hR.drew.trans (hb'.mono (Nat.le_refl _))
  go_wp2_with fail
  go_returns
  exact ⟨p,rfl,hP,hb⟩
set_option maxRecDepth 100000 in
set_option maxHeartbeats 4000000 in
theorem xat_homog (q g:Nat) (k W H x y d u v e':Int) (w:World) (hM:Bk w q 100 (xfA k W H 166 g))
 (hA:Calls Tryz.prog 166 #[.pointer (some ⟨g,0,none⟩),.int .i64 x,.int .i64 y,.int .i64 d] w fun e w'=>e=.returned (.tuple #[.int .i64 u,.int .i64 v,.int .i64 e'])∧Below w.heap.size w w') :
 Calls Tryz.prog 48 #[.pointer (some ⟨q,0,none⟩),.int .i64 x,.int .i64 y,.int .i64 d] w fun e w' =>
  e=.returned (.tuple #[.int .i64 u,.int .i64 v,.int .i64 e'])∧Below w.heap.size w w':=by
 obtain ⟨c0,c1,c2,c3⟩:=hM.cell4
 have hq:=eql_asked (.func 166) #[.pointer (some ⟨g,0,none⟩)] #[]
 clear hM c0 c1 c2
 go_enter Tryz.func48,Tryz.ntmps48
 go_wp2_with fail
 refine hA.mono ?_
 rintro e w1 ⟨rfl,hb⟩
 go_wp2_with fail
 go_returns
 exact ⟨rfl,hb⟩
set_option maxRecDepth 100000 in
set_option maxHeartbeats 8000000 in
theorem newMp_homog (A:Option Addr) (n cp:Nat) (W H C:Int) (F G E:Int→Int→Int→Int) (w0:World) (hs:szH W H=true)
 (hN:∀ w',Below w0.heap.size w0 w'→Calls Tryz.prog 165 #[.slice A n cp,.int .i64 W,.int .i64 H] w' fun e w''=>∃ p,e=.returned (.tuple #[.pointer p,.int .i64 C])∧PkR 166 C F G E w' w'' p∧Below w'.heap.size w' w'') :
 NewMp 2 A n cp W H w0 C F G E:=by
 intro w hb0
 obtain ⟨⟨s0,s1⟩,s2,s3⟩:=szH_iff.1 hs
 have hL:=((Lie.start w).alloc #[.int .i64 2,.slice A n cp] 32).alloc #[.int .i64 2,.int .i64 W,.int .i64 H,.nilFunc] 100
 simp only [World.size_alloc] at hL
 have hd:decide (1≤(2:Int)∧(2:Int)≤6)=true:=by decide
 clear hs
 go_enter Tryz.func14,Tryz.ntmps14
 go_wp2_with (first
  | (go_at_call 44;(with_reducible refine (xis_any _ _).mono ?_);rintro e w' ⟨rfl,rfl⟩;rw [hd]))
 generalize hw1:(w.alloc (.cells #[.int .i64 2,.slice A n cp] 32)).alloc (.cells #[.int .i64 2,.int .i64 W,.int .i64 H,.nilFunc] 100)=w1 at *
 have kt:Bk w1 w.heap.size 32 #[.int .i64 2,.slice A n cp]:=hL.k 1 (by simp)
 have km1:Bk w1 (w.heap.size+1) 100 #[.int .i64 2,.int .i64 W,.int .i64 H,.nilFunc]:=hL.k 0 (by simp)
 have hlt:=kt.lt
 obtain ⟨c0,c1⟩:=kt.cell2
 have hsz:=hL.sz
 have hAf:=fun (w':World) (hb:Below w1.heap.size w1 w')=>xm_homog A n cp W H C F G E (w.heap.size+1) w' (km1.nx hb) (fun w'' hb''=>hN w'' (((hb0.trans (hL.bel.mono hb0.size)).trans (hb.mono (Nat.le_trans hb0.size hsz))).trans (hb''.mono (Nat.le_trans (Nat.le_trans hb0.size hsz) hb.size))))
 clear hw1 hN
 have c0d:w1.drew.cell? ⟨w.heap.size,0,none⟩=some (.int .i64 2):=c0
 go_region_with (first
  | (go_at_call 45;(with_reducible refine (kinds_blk _).mono ?_);rintro e wk ⟨rfl,hKk,hbk'⟩;have hbk:Below w1.heap.size w1 wk:=Below.trans (by go_grown) (hbk'.mono (by first | exact Nat.le_refl _|simp));have kc:=hKk.cell 8;simp at kc;have d0:=(hbk.cell (p:=⟨w.heap.size,0,none⟩) hlt).trans c0;have d1:=(hbk.cell (p:=⟨w.heap.size,1,none⟩) hlt).trans c1)
  | (go_at_call 90;(with_reducible refine (hAf _ (by exact hbk)).mono ?_);rintro e wa ⟨p,rfl,hR,hba'⟩;have hba:Below w1.heap.size w1 wa:=hbk.trans (hba'.mono hbk.size)))
 all_goals
  have hLa:=hL.nx hba
  have km:Bk wa (w.heap.size+1) 100 #[.int .i64 2,.int .i64 W,.int .i64 H,.nilFunc]:=hLa.k 0 (by simp)
  have hlt2:w.heap.size+1<w1.heap.size:=km1.lt
  have hkz:=hbk.size
  have hbw:=hLa.bel
  have hwaz:=hba'.size
  clear hL hLa hAf kt km1 c0 c1 hd hba' hKk kc
  by_cases h1:C=0
  ·obtain ⟨g,rfl,hg,hAt⟩:=hR h1
   obtain ⟨d0,d1,d2,d3⟩:=km.cell4
   have f3:=km.frozen 3
   have kM:=km.set 3 (.func (.func 166) #[.pointer (some ⟨g,0,none⟩)] #[])
   simp only [List.setIfInBounds_toArray,List.set_cons_zero,List.set_cons_succ] at kM
   have hbf:=hbw.setCell (p:=⟨w.heap.size+1,3,none⟩) (by simp) (.func (.func 166) #[.pointer (some ⟨g,0,none⟩)] #[])
   have hMp:MapFn w.heap.size (wa.setCell ⟨w.heap.size+1,3,none⟩ (.func (.func 166) #[.pointer (some ⟨g,0,none⟩)] #[])).heap.size (wa.setCell ⟨w.heap.size+1,3,none⟩ (.func (.func 166) #[.pointer (some ⟨g,0,none⟩)] #[])) (some ⟨w.heap.size+1,0,none⟩) F G E:=by
    intro w3 hs3 hk x y d
    rw [World.size_setCell] at hs3 hk
    refine xat_homog (w.heap.size+1) g 2 W H x y d _ _ _ w3 (kM.same (hk _ (by omega) (by omega))) (hAt w3 hs3 (fun i hi1 hi2=>?_) x y d)
    have hi3:w1.heap.size≤i:=Nat.le_trans hkz hi1
    rw [hk i (by omega) hi2]
    exact Below.heap_setCell wa ⟨w.heap.size+1,3,none⟩ _ i (by simp;omega)
   subst h1
   clear hR hg hkz km hAt
   go_wp2_with fail
   go_returns
   first
    | exact ⟨_,rfl,⟨hMp,_,rfl,Nat.le_succ _,_,kM⟩,hbf⟩
    | exact ⟨_,rfl,fun h=>absurd rfl h,fun _=>⟨hMp,_,rfl,Nat.le_succ _,_,kM⟩,hbf⟩
  ·have hb:(C != 0)=true:=by simp [h1]
   have hne:=Lib.hid h1
   clear hR h1 km
   go_wp2_with fail
   go_returns
   exact ⟨none,rfl,fun _=>rfl,fun h=>absurd h hne.out,hbw⟩
end Go.Proofs.YtjbelhpgbcnlmaaGreat
end
