/- Several texts in one: xform: New and At of the kind lens, by its package's own. (Printed by wip/tools/genpx.py.) xform: New and At of the kind mesh, by its package's own. (Printed by wip/tools/genpx.py.) xform: New and At of the kind shear, by its package's own. (Printed by wip/tools/genpx.py.) xform: New and At of the kind turn, by its package's own. (Printed by wip/tools/genpx.py.) -/
import Derived.Test.YtjbelhpgbcnlmaaGreatSamplePixelsZz26
section
set_option linter.unusedVariables false
namespace Go.Proofs.YtjbelhpgbcnlmaaGreat
open Go.RowKit
set_option maxRecDepth 100000 in
set_option maxHeartbeats 4000000 in
theorem xm_lens (A:Option Addr) (n cp:Nat) (W H C:Int) (F G E:Int→Int→Int→Int) (q:Nat) (w:World) (hK:Bk w q 100 #[.int .i64 3,.int .i64 W,.int .i64 H,.nilFunc])
 (hN:∀ w',Below w.heap.size w w'→Calls Tryz.prog 167 #[.slice A n cp,.int .i64 W,.int .i64 H] w' fun e w''=>∃ p,e=.returned (.tuple #[.pointer p,.int .i64 C])∧PkR 168 C F G E w' w'' p∧Below w'.heap.size w' w'') :
 Calls Tryz.prog 91 #[.pointer (some ⟨q,0,none⟩),.slice A n cp] w fun e w'=>∃ p,e=.returned (.tuple #[.func (.func 168) #[.pointer p] #[],.int .i64 C])∧PkR 168 C F G E w w' p∧Below w.heap.size w w':=by
 have hR:=Below.refl w.heap.size w
 obtain ⟨c0,c1,c2,c3⟩:=hK.cell4
 have hN':=hN w.drew hR.drew
 have hN0:=hN w hR
 clear c0 c3 hK hN
 go_enter Tryz.func91,Tryz.ntmps91
 go_wp2_with fail
 go_region_with ((go_at_call 167;(with_reducible refine hN'.mono ?_);rintro e w1 ⟨p,rfl,hP,hb'⟩))
 all_goals
  have hb:Below w.heap.size w w1:=hR.drew.trans (hb'.mono (Nat.le_refl _))
  go_wp2_with fail
  go_returns
  exact ⟨p,rfl,hP,hb⟩
set_option maxRecDepth 100000 in
set_option maxHeartbeats 4000000 in
theorem xat_lens (q g:Nat) (k W H x y d u v e':Int) (w:World) (hM:Bk w q 100 (xfA k W H 168 g))
 (hA:Calls Tryz.prog 168 #[.pointer (some ⟨g,0,none⟩),.int .i64 x,.int .i64 y,.int .i64 d] w fun e w'=>e=.returned (.tuple #[.int .i64 u,.int .i64 v,.int .i64 e'])∧Below w.heap.size w w') :
 Calls Tryz.prog 48 #[.pointer (some ⟨q,0,none⟩),.int .i64 x,.int .i64 y,.int .i64 d] w fun e w' =>
  e=.returned (.tuple #[.int .i64 u,.int .i64 v,.int .i64 e'])∧Below w.heap.size w w':=by
 obtain ⟨c0,c1,c2,c3⟩:=hM.cell4
 have hq:=eql_asked (.func 168) #[.pointer (some ⟨g,0,none⟩)] #[]
 clear hM c0 c1 c2
 go_enter Tryz.func48,Tryz.ntmps48
 go_wp2_with fail
 refine hA.mono ?_
 rintro e w1 ⟨rfl,hb⟩
 go_wp2_with fail
 go_returns
 exact ⟨rfl,hb⟩
set_option maxRecDepth 100000 in
set_option maxHeartbeats 8000000 in
theorem newMp_lens (A:Option Addr) (n cp:Nat) (W H C:Int) (F G E:Int→Int→Int→Int) (w0:World) (hs:szH W H=true)
 (hN:∀ w',Below w0.heap.size w0 w'→Calls Tryz.prog 167 #[.slice A n cp,.int .i64 W,.int .i64 H] w' fun e w''=>∃ p,e=.returned (.tuple #[.pointer p,.int .i64 C])∧PkR 168 C F G E w' w'' p∧Below w'.heap.size w' w'') :
 NewMp 3 A n cp W H w0 C F G E:=by
 intro w hb0
 obtain ⟨⟨s0,s1⟩,s2,s3⟩:=szH_iff.1 hs
 have hL:=((Lie.start w).alloc #[.int .i64 3,.slice A n cp] 32).alloc #[.int .i64 3,.int .i64 W,.int .i64 H,.nilFunc] 100
 simp only [World.size_alloc] at hL
 have hd:decide (1≤(3:Int)∧(3:Int)≤6)=true:=by decide
 clear hs
 go_enter Tryz.func14,Tryz.ntmps14
 go_wp2_with (first
  | (go_at_call 44;(with_reducible refine (xis_any _ _).mono ?_);rintro e w' ⟨rfl,rfl⟩;rw [hd]))
 generalize hw1:(w.alloc (.cells #[.int .i64 3,.slice A n cp] 32)).alloc (.cells #[.int .i64 3,.int .i64 W,.int .i64 H,.nilFunc] 100)=w1 at *
 have kt:Bk w1 w.heap.size 32 #[.int .i64 3,.slice A n cp]:=hL.k 1 (by simp)
 have km1:Bk w1 (w.heap.size+1) 100 #[.int .i64 3,.int .i64 W,.int .i64 H,.nilFunc]:=hL.k 0 (by simp)
 have hlt:=kt.lt
 obtain ⟨c0,c1⟩:=kt.cell2
 have hsz:=hL.sz
 have hAf:=fun (w':World) (hb:Below w1.heap.size w1 w')=>xm_lens A n cp W H C F G E (w.heap.size+1) w' (km1.nx hb) (fun w'' hb''=>hN w'' (((hb0.trans (hL.bel.mono hb0.size)).trans (hb.mono (Nat.le_trans hb0.size hsz))).trans (hb''.mono (Nat.le_trans (Nat.le_trans hb0.size hsz) hb.size))))
 clear hw1 hN
 have c0d:w1.drew.cell? ⟨w.heap.size,0,none⟩=some (.int .i64 3):=c0
 go_region_with (first
  | (go_at_call 45;(with_reducible refine (kinds_blk _).mono ?_);rintro e wk ⟨rfl,hKk,hbk'⟩;have hbk:Below w1.heap.size w1 wk:=Below.trans (by go_grown) (hbk'.mono (by first | exact Nat.le_refl _|simp));have kc:=hKk.cell 11;simp at kc;have d0:=(hbk.cell (p:=⟨w.heap.size,0,none⟩) hlt).trans c0;have d1:=(hbk.cell (p:=⟨w.heap.size,1,none⟩) hlt).trans c1)
  | (go_at_call 91;(with_reducible refine (hAf _ (by exact hbk)).mono ?_);rintro e wa ⟨p,rfl,hR,hba'⟩;have hba:Below w1.heap.size w1 wa:=hbk.trans (hba'.mono hbk.size)))
 all_goals
  have hLa:=hL.nx hba
  have km:Bk wa (w.heap.size+1) 100 #[.int .i64 3,.int .i64 W,.int .i64 H,.nilFunc]:=hLa.k 0 (by simp)
  have hlt2:w.heap.size+1<w1.heap.size:=km1.lt
  have hkz:=hbk.size
  have hbw:=hLa.bel
  have hwaz:=hba'.size
  clear hL hLa hAf kt km1 c0 c1 hd hba' hKk kc
  by_cases h1:C=0
  ·obtain ⟨g,rfl,hg,hAt⟩:=hR h1
   obtain ⟨d0,d1,d2,d3⟩:=km.cell4
   have f3:=km.frozen 3
   have kM:=km.set 3 (.func (.func 168) #[.pointer (some ⟨g,0,none⟩)] #[])
   simp only [List.setIfInBounds_toArray,List.set_cons_zero,List.set_cons_succ] at kM
   have hbf:=hbw.setCell (p:=⟨w.heap.size+1,3,none⟩) (by simp) (.func (.func 168) #[.pointer (some ⟨g,0,none⟩)] #[])
   have hMp:MapFn w.heap.size (wa.setCell ⟨w.heap.size+1,3,none⟩ (.func (.func 168) #[.pointer (some ⟨g,0,none⟩)] #[])).heap.size (wa.setCell ⟨w.heap.size+1,3,none⟩ (.func (.func 168) #[.pointer (some ⟨g,0,none⟩)] #[])) (some ⟨w.heap.size+1,0,none⟩) F G E:=by
    intro w3 hs3 hk x y d
    rw [World.size_setCell] at hs3 hk
    refine xat_lens (w.heap.size+1) g 3 W H x y d _ _ _ w3 (kM.same (hk _ (by omega) (by omega))) (hAt w3 hs3 (fun i hi1 hi2=>?_) x y d)
    have hi3:w1.heap.size≤i:=Nat.le_trans hkz hi1
    rw [hk i (by omega) hi2]
    exact Below.heap_setCell wa ⟨w.heap.size+1,3,none⟩ _ i (by simp;omega)
   subst h1
   clear hR hg hkz km hAt
   go_wp2_with fail
   go_returns
   first
    | exact ⟨_,rfl,⟨hMp,_,rfl,Nat.le_succ _,_,kM⟩,hbf⟩
    | exact ⟨_,rfl,fun h=>absurd rfl h,fun _=>⟨hMp,_,rfl,Nat.le_succ _,_,kM⟩,hbf⟩
  ·have hb:(C != 0)=true:=by simp [h1]
   have hne:=Lib.hid h1
   clear hR h1 km
   go_wp2_with fail
   go_returns
   exact ⟨none,rfl,fun _=>rfl,fun h=>absurd h hne.out,hbw⟩
end Go.Proofs.YtjbelhpgbcnlmaaGreat
end
section
set_option linter.unusedVariables false
namespace Go.Proofs.YtjbelhpgbcnlmaaGreat
open Go.RowKit
set_option maxRecDepth 100000 in
set_option maxHeartbeats 4000000 in
theorem xm_mesh (A:Option Addr) (n cp:Nat) (W H C:Int) (F G E:Int→Int→Int→Int) (q:Nat) (w:World) (hK:Bk w q 100 #[.int .i64 4,.int .i64 W,.int .i64 H,.nilFunc])
 (hN:∀ w',Below w.heap.size w w'→Calls Tryz.prog 169 #[.slice A n cp,.int .i64 W,.int .i64 H] w' fun e w''=>∃ p,e=.returned (.tuple #[.pointer p,.int .i64 C])∧PkR 170 C F G E w' w'' p∧Below w'.heap.size w' w'') :
 Calls Tryz.prog 92 #[.pointer (some ⟨q,0,none⟩),.slice A n cp] w fun e w'=>∃ p,e=.returned (.tuple #[.func (.func 170) #[.pointer p] #[],.int .i64 C])∧PkR 170 C F G E w w' p∧Below w.heap.size w w':=by
 have hR:=Below.refl w.heap.size w
 obtain ⟨c0,c1,c2,c3⟩:=hK.cell4
 have hN':=hN w.drew hR.drew
 have hN0:=hN w hR
 clear c0 c3 hK hN
 go_enter Tryz.func92,Tryz.ntmps92
 go_wp2_with fail
 go_region_with ((go_at_call 169;(with_reducible refine hN'.mono ?_);rintro e w1 ⟨p,rfl,hP,hb'⟩))
 all_goals
  have hb:Below w.heap.size w w1:=hR.drew.trans (hb'.mono (Nat.le_refl _))
  go_wp2_with fail
  go_returns
  exact ⟨p,rfl,hP,hb⟩
set_option maxRecDepth 100000 in
set_option maxHeartbeats 4000000 in
theorem xat_mesh (q g:Nat) (k W H x y d u v e':Int) (w:World) (hM:Bk w q 100 (xfA k W H 170 g))
 (hA:Calls Tryz.prog 170 #[.pointer (some ⟨g,0,none⟩),.int .i64 x,.int .i64 y,.int .i64 d] w fun e w'=>e=.returned (.tuple #[.int .i64 u,.int .i64 v,.int .i64 e'])∧Below w.heap.size w w') :
 Calls Tryz.prog 48 #[.pointer (some ⟨q,0,none⟩),.int .i64 x,.int .i64 y,.int .i64 d] w fun e w' =>
  e=.returned (.tuple #[.int .i64 u,.int .i64 v,.int .i64 e'])∧Below w.heap.size w w':=by
 obtain ⟨c0,c1,c2,c3⟩:=hM.cell4
 have hq:=eql_asked (.func 170) #[.pointer (some ⟨g,0,none⟩)] #[]
 clear hM c0 c1 c2
 go_enter Tryz.func48,Tryz.ntmps48
 go_wp2_with fail
 refine hA.mono ?_
 rintro e w1 ⟨rfl,hb⟩
 go_wp2_with fail
 go_returns
 exact ⟨rfl,hb⟩
set_option maxRecDepth 100000 in
set_option maxHeartbeats 8000000 in
theorem newMp_mesh (A:Option Addr) (n cp:Nat) (W H C:Int) (F G E:Int→Int→Int→Int) (w0:World) (hs:szH W H=true)
 (hN:∀ w',Below w0.heap.size w0 w'→Calls Tryz.prog 169 #[.slice A n cp,.int .i64 W,.int .i64 H] w' fun e w''=>∃ p,e=.returned (.tuple #[.pointer p,.int .i64 C])∧PkR 170 C F G E w' w'' p∧Below w'.heap.size w' w'') :
 NewMp 4 A n cp W H w0 C F G E:=by
 intro w hb0
 obtain ⟨⟨s0,s1⟩,s2,s3⟩:=szH_iff.1 hs
 have hL:=((Lie.start w).alloc #[.int .i64 4,.slice A n cp] 32).alloc #[.int .i64 4,.int .i64 W,.int .i64 H,.nilFunc] 100
 simp only [World.size_alloc] at hL
 have hd:decide (1≤(4:Int)∧(4:Int)≤6)=true:=by decide
 clear hs
 go_enter Tryz.func14,Tryz.ntmps14
 go_wp2_with (first
  | (go_at_call 44;(with_reducible refine (xis_any _ _).mono ?_);rintro e w' ⟨rfl,rfl⟩;rw [hd]))
 generalize hw1:(w.alloc (.cells #[.int .i64 4,.slice A n cp] 32)).alloc (.cells #[.int .i64 4,.int .i64 W,.int .i64 H,.nilFunc] 100)=w1 at *
 have kt:Bk w1 w.heap.size 32 #[.int .i64 4,.slice A n cp]:=hL.k 1 (by simp)
 have km1:Bk w1 (w.heap.size+1) 100 #[.int .i64 4,.int .i64 W,.int .i64 H,.nilFunc]:=hL.k 0 (by simp)
 have hlt:=kt.lt
 obtain ⟨c0,c1⟩:=kt.cell2
 have hsz:=hL.sz
 have hAf:=fun (w':World) (hb:Below w1.heap.size w1 w')=>xm_mesh A n cp W H C F G E (w.heap.size+1) w' (km1.nx hb) (fun w'' hb''=>hN w'' (((hb0.trans (hL.bel.mono hb0.size)).trans (hb.mono (Nat.le_trans hb0.size hsz))).trans (hb''.mono (Nat.le_trans (Nat.le_trans hb0.size hsz) hb.size))))
 clear hw1 hN
 have c0d:w1.drew.cell? ⟨w.heap.size,0,none⟩=some (.int .i64 4):=c0
 go_region_with (first
  | (go_at_call 45;(with_reducible refine (kinds_blk _).mono ?_);rintro e wk ⟨rfl,hKk,hbk'⟩;have hbk:Below w1.heap.size w1 wk:=Below.trans (by go_grown) (hbk'.mono (by first | exact Nat.le_refl _|simp));have kc:=hKk.cell 14;simp at kc;have d0:=(hbk.cell (p:=⟨w.heap.size,0,none⟩) hlt).trans c0;have d1:=(hbk.cell (p:=⟨w.heap.size,1,none⟩) hlt).trans c1)
  | (go_at_call 92;(with_reducible refine (hAf _ (by exact hbk)).mono ?_);rintro e wa ⟨p,rfl,hR,hba'⟩;have hba:Below w1.heap.size w1 wa:=hbk.trans (hba'.mono hbk.size)))
 all_goals
  have hLa:=hL.nx hba
  have km:Bk wa (w.heap.size+1) 100 #[.int .i64 4,.int .i64 W,.int .i64 H,.nilFunc]:=hLa.k 0 (by simp)
  have hlt2:w.heap.size+1<w1.heap.size:=km1.lt
  have hkz:=hbk.size
  have hbw:=hLa.bel
  have hwaz:=hba'.size
  clear hL hLa hAf kt km1 c0 c1 hd hba' hKk kc
  by_cases h1:C=0
  ·obtain ⟨g,rfl,hg,hAt⟩:=hR h1
   obtain ⟨d0,d1,d2,d3⟩:=km.cell4
   have f3:=km.frozen 3
   have kM:=km.set 3 (.func (.func 170) #[.pointer (some ⟨g,0,none⟩)] #[])
   simp only [List.setIfInBounds_toArray,List.set_cons_zero,List.set_cons_succ] at kM
   have hbf:=hbw.setCell (p:=⟨w.heap.size+1,3,none⟩) (by simp) (.func (.func 170) #[.pointer (some ⟨g,0,none⟩)] #[])
   have hMp:MapFn w.heap.size (wa.setCell ⟨w.heap.size+1,3,none⟩ (.func (.func 170) #[.pointer (some ⟨g,0,none⟩)] #[])).heap.size (wa.setCell ⟨w.heap.size+1,3,none⟩ (.func (.func 170) #[.pointer (some ⟨g,0,none⟩)] #[])) (some ⟨w.heap.size+1,0,none⟩) F G E:=by
    intro w3 hs3 hk x y d
    rw [World.size_setCell] at hs3 hk
    refine xat_mesh (w.heap.size+1) g 4 W H x y d _ _ _ w3 (kM.same (hk _ (by omega) (by omega))) (hAt w3 hs3 (fun i hi1 hi2=>?_) x y d)
    have hi3:w1.heap.size≤i:=Nat.le_trans hkz hi1
    rw [hk i (by omega) hi2]
    exact Below.heap_setCell wa ⟨w.heap.size+1,3,none⟩ _ i (by simp;omega)
   subst h1
   clear hR hg hkz km hAt
   go_wp2_with fail
   go_returns
   first
    | exact ⟨_,rfl,⟨hMp,_,rfl,Nat.le_succ _,_,kM⟩,hbf⟩
    | exact ⟨_,rfl,fun h=>absurd rfl h,fun _=>⟨hMp,_,rfl,Nat.le_succ _,_,kM⟩,hbf⟩
  ·have hb:(C != 0)=true:=by simp [h1]
   have hne:=Lib.hid h1
   clear hR h1 km
   go_wp2_with fail
   go_returns
   exact ⟨none,rfl,fun _=>rfl,fun h=>absurd h hne.out,hbw⟩
end Go.Proofs.YtjbelhpgbcnlmaaGreat
end
section
set_option linter.unusedVariables false
namespace Go.Proofs.YtjbelhpgbcnlmaaGreat
open Go.RowKit
set_option maxRecDepth 100000 in
set_option maxHeartbeats 4000000 in
theorem xm_shear (A:Option Addr) (n cp:Nat) (W H C:Int) (F G E:Int→Int→Int→Int) (q:Nat) (w:World) (hK:Bk w q 100 #[.int .i64 5,.int .i64 W,.int .i64 H,.nilFunc])
 (hN:∀ w',Below w.heap.size w w'→Calls Tryz.prog 171 #[.slice A n cp] w' fun e w''=>∃ p,e=.returned (.tuple #[.pointer p,.int .i64 C])∧PkR 172 C F G E w' w'' p∧Below w'.heap.size w' w'') :
 Calls Tryz.prog 93 #[.pointer (some ⟨q,0,none⟩),.slice A n cp] w fun e w'=>∃ p,e=.returned (.tuple #[.func (.func 172) #[.pointer p] #[],.int .i64 C])∧PkR 172 C F G E w w' p∧Below w.heap.size w w':=by
 have hR:=Below.refl w.heap.size w
 obtain ⟨c0,c1,c2,c3⟩:=hK.cell4
 have hN':=hN w.drew hR.drew
 have hN0:=hN w hR
 clear c0 c3 hK hN
 go_enter Tryz.func93,Tryz.ntmps93
 go_wp2_with fail
 refine hN0.mono ?_
 rintro e w1 ⟨p,rfl,hP,hb⟩
 go_wp2_with fail
 go_returns
 exact ⟨p,rfl,hP,hb⟩
set_option maxRecDepth 100000 in
set_option maxHeartbeats 4000000 in
theorem xat_shear (q g:Nat) (k W H x y d u v e':Int) (w:World) (hM:Bk w q 100 (xfA k W H 172 g))
 (hA:Calls Tryz.prog 172 #[.pointer (some ⟨g,0,none⟩),.int .i64 x,.int .i64 y,.int .i64 d] w fun e w'=>e=.returned (.tuple #[.int .i64 u,.int .i64 v,.int .i64 e'])∧Below w.heap.size w w') :
 Calls Tryz.prog 48 #[.pointer (some ⟨q,0,none⟩),.int .i64 x,.int .i64 y,.int .i64 d] w fun e w' =>
  e=.returned (.tuple #[.int .i64 u,.int .i64 v,.int .i64 e'])∧Below w.heap.size w w':=by
 obtain ⟨c0,c1,c2,c3⟩:=hM.cell4
 have hq:=eql_asked (.func 172) #[.pointer (some ⟨g,0,none⟩)] #[]
 clear hM c0 c1 c2
 go_enter Tryz.func48,Tryz.ntmps48
 go_wp2_with fail
 refine hA.mono ?_
 rintro e w1 ⟨rfl,hb⟩
 go_wp2_with fail
 go_returns
 exact ⟨rfl,hb⟩
set_option maxRecDepth 100000 in
set_option maxHeartbeats 8000000 in
theorem newMp_shear (A:Option Addr) (n cp:Nat) (W H C:Int) (F G E:Int→Int→Int→Int) (w0:World) (hs:szH W H=true)
 (hN:∀ w',Below w0.heap.size w0 w'→Calls Tryz.prog 171 #[.slice A n cp] w' fun e w''=>∃ p,e=.returned (.tuple #[.pointer p,.int .i64 C])∧PkR 172 C F G E w' w'' p∧Below w'.heap.size w' w'') :
 NewMp 5 A n cp W H w0 C F G E:=by
 intro w hb0
 obtain ⟨⟨s0,s1⟩,s2,s3⟩:=szH_iff.1 hs
 have hL:=((Lie.start w).alloc #[.int .i64 5,.slice A n cp] 32).alloc #[.int .i64 5,.int .i64 W,.int .i64 H,.nilFunc] 100
 simp only [World.size_alloc] at hL
 have hd:decide (1≤(5:Int)∧(5:Int)≤6)=true:=by decide
 clear hs
 go_enter Tryz.func14,Tryz.ntmps14
 go_wp2_with (first
  | (go_at_call 44;(with_reducible refine (xis_any _ _).mono ?_);rintro e w' ⟨rfl,rfl⟩;rw [hd]))
 generalize hw1:(w.alloc (.cells #[.int .i64 5,.slice A n cp] 32)).alloc (.cells #[.int .i64 5,.int .i64 W,.int .i64 H,.nilFunc] 100)=w1 at *
 have kt:Bk w1 w.heap.size 32 #[.int .i64 5,.slice A n cp]:=hL.k 1 (by simp)
 have km1:Bk w1 (w.heap.size+1) 100 #[.int .i64 5,.int .i64 W,.int .i64 H,.nilFunc]:=hL.k 0 (by simp)
 have hlt:=kt.lt
 obtain ⟨c0,c1⟩:=kt.cell2
 have hsz:=hL.sz
 have hAf:=fun (w':World) (hb:Below w1.heap.size w1 w')=>xm_shear A n cp W H C F G E (w.heap.size+1) w' (km1.nx hb) (fun w'' hb''=>hN w'' (((hb0.trans (hL.bel.mono hb0.size)).trans (hb.mono (Nat.le_trans hb0.size hsz))).trans (hb''.mono (Nat.le_trans (Nat.le_trans hb0.size hsz) hb.size))))
 clear hw1 hN
 have c0d:w1.drew.cell? ⟨w.heap.size,0,none⟩=some (.int .i64 5):=c0
 go_region_with (first
  | (go_at_call 45;(with_reducible refine (kinds_blk _).mono ?_);rintro e wk ⟨rfl,hKk,hbk'⟩;have hbk:Below w1.heap.size w1 wk:=Below.trans (by go_grown) (hbk'.mono (by first | exact Nat.le_refl _|simp));have kc:=hKk.cell 17;simp at kc;have d0:=(hbk.cell (p:=⟨w.heap.size,0,none⟩) hlt).trans c0;have d1:=(hbk.cell (p:=⟨w.heap.size,1,none⟩) hlt).trans c1)
  | (go_at_call 93;(with_reducible refine (hAf _ (by exact hbk)).mono ?_);rintro e wa ⟨p,rfl,hR,hba'⟩;have hba:Below w1.heap.size w1 wa:=hbk.trans (hba'.mono hbk.size)))
 all_goals
  have hLa:=hL.nx hba
  have km:Bk wa (w.heap.size+1) 100 #[.int .i64 5,.int .i64 W,.int .i64 H,.nilFunc]:=hLa.k 0 (by simp)
  have hlt2:w.heap.size+1<w1.heap.size:=km1.lt
  have hkz:=hbk.size
  have hbw:=hLa.bel
  have hwaz:=hba'.size
  clear hL hLa hAf kt km1 c0 c1 hd hba' hKk kc
  by_cases h1:C=0
  ·obtain ⟨g,rfl,hg,hAt⟩:=hR h1
   obtain ⟨d0,d1,d2,d3⟩:=km.cell4
   have f3:=km.frozen 3
   have kM:=km.set 3 (.func (.func 172) #[.pointer (some ⟨g,0,none⟩)] #[])
   simp only [List.setIfInBounds_toArray,List.set_cons_zero,List.set_cons_succ] at kM
   have hbf:=hbw.setCell (p:=⟨w.heap.size+1,3,none⟩) (by simp) (.func (.func 172) #[.pointer (some ⟨g,0,none⟩)] #[])
   have hMp:MapFn w.heap.size (wa.setCell ⟨w.heap.size+1,3,none⟩ (.func (.func 172) #[.pointer (some ⟨g,0,none⟩)] #[])).heap.size (wa.setCell ⟨w.heap.size+1,3,none⟩ (.func (.func 172) #[.pointer (some ⟨g,0,none⟩)] #[])) (some ⟨w.heap.size+1,0,none⟩) F G E:=by
    intro w3 hs3 hk x y d
    rw [World.size_setCell] at hs3 hk
    refine xat_shear (w.heap.size+1) g 5 W H x y d _ _ _ w3 (kM.same (hk _ (by omega) (by omega))) (hAt w3 hs3 (fun i hi1 hi2=>?_) x y d)
    have hi3:w1.heap.size≤i:=Nat.le_trans hkz hi1
    rw [hk i (by omega) hi2]
    exact Below.heap_setCell wa ⟨w.heap.size+1,3,none⟩ _ i (by simp;omega)
   subst h1
   clear hR hg hkz km hAt
   go_wp2_with fail
   go_returns
   first
    | exact ⟨_,rfl,⟨hMp,_,rfl,Nat.le_succ _,_,kM⟩,hbf⟩
    | exact ⟨_,rfl,fun h=>absurd rfl h,fun _=>⟨hMp,_,rfl,Nat.le_succ _,_,kM⟩,hbf⟩
  ·have hb:(C != 0)=true:=by simp [h1]
   have hne:=Lib.hid h1
   clear hR h1 km
   go_wp2_with fail
   go_returns
   exact ⟨none,rfl,fun _=>rfl,fun h=>absurd h hne.out,hbw⟩
end Go.Proofs.YtjbelhpgbcnlmaaGreat
end
section
set_option linter.unusedVariables false
namespace Go.Proofs.YtjbelhpgbcnlmaaGreat
open Go.RowKit
set_option maxRecDepth 100000 in
set_option maxHeartbeats 4000000 in
theorem xm_turn (A:Option Addr) (n cp:Nat) (W H C:Int) (F G E:Int→Int→Int→Int) (q:Nat) (w:World) (hK:Bk w q 100 #[.int .i64 6,.int .i64 W,.int .i64 H,.nilFunc])
 (hN:∀ w',Below w.heap.size w w'→Calls Tryz.prog 173 #[.slice A n cp] w' fun e w''=>∃ p,e=.returned (.tuple #[.pointer p,.int .i64 C])∧PkR 174 C F G E w' w'' p∧Below w'.heap.size w' w'') :
 Calls Tryz.prog 94 #[.pointer (some ⟨q,0,none⟩),.slice A n cp] w fun e w'=>∃ p,e=.returned (.tuple #[.func (.func 174) #[.pointer p] #[],.int .i64 C])∧PkR 174 C F G E w w' p∧Below w.heap.size w w':=by
 have hR:=Below.refl w.heap.size w
 obtain ⟨c0,c1,c2,c3⟩:=hK.cell4
 have hN':=hN w.drew hR.drew
 have hN0:=hN w hR
 clear c0 c3 hK hN
 go_enter Tryz.func94,Tryz.ntmps94
 go_wp2_with fail
 refine hN0.mono ?_
 rintro e w1 ⟨p,rfl,hP,hb⟩
 go_wp2_with fail
 go_returns
 exact ⟨p,rfl,hP,hb⟩
set_option maxRecDepth 100000 in
set_option maxHeartbeats 4000000 in
theorem xat_turn (q g:Nat) (k W H x y d u v e':Int) (w:World) (hM:Bk w q 100 (xfA k W H 174 g))
 (hA:Calls Tryz.prog 174 #[.pointer (some ⟨g,0,none⟩),.int .i64 x,.int .i64 y,.int .i64 d] w fun e w'=>e=.returned (.tuple #[.int .i64 u,.int .i64 v,.int .i64 e'])∧Below w.heap.size w w') :
 Calls Tryz.prog 48 #[.pointer (some ⟨q,0,none⟩),.int .i64 x,.int .i64 y,.int .i64 d] w fun e w' =>
  e=.returned (.tuple #[.int .i64 u,.int .i64 v,.int .i64 e'])∧Below w.heap.size w w':=by
 obtain ⟨c0,c1,c2,c3⟩:=hM.cell4
 have hq:=eql_asked (.func 174) #[.pointer (some ⟨g,0,none⟩)] #[]
 clear hM c0 c1 c2
 go_enter Tryz.func48,Tryz.ntmps48
 go_wp2_with fail
 refine hA.mono ?_
 rintro e w1 ⟨rfl,hb⟩
 go_wp2_with fail
 go_returns
 exact ⟨rfl,hb⟩
set_option maxRecDepth 100000 in
set_option maxHeartbeats 8000000 in
theorem newMp_turn (A:Option Addr) (n cp:Nat) (W H C:Int) (F G E:Int→Int→Int→Int) (w0:World) (hs:szH W H=true)
 (hN:∀ w',Below w0.heap.size w0 w'→Calls Tryz.prog 173 #[.slice A n cp] w' fun e w''=>∃ p,e=.returned (.tuple #[.pointer p,.int .i64 C])∧PkR 174 C F G E w' w'' p∧Below w'.heap.size w' w'') :
 NewMp 6 A n cp W H w0 C F G E:=by
 intro w hb0
 obtain ⟨⟨s0,s1⟩,s2,s3⟩:=szH_iff.1 hs
 have hL:=((Lie.start w).alloc #[.int .i64 6,.slice A n cp] 32).alloc #[.int .i64 6,.int .i64 W,.int .i64 H,.nilFunc] 100
 simp only [World.size_alloc] at hL
 have hd:decide (1≤(6:Int)∧(6:Int)≤6)=true:=by decide
 clear hs
 go_enter Tryz.func14,Tryz.ntmps14
 go_wp2_with (first
  | (go_at_call 44;(with_reducible refine (xis_any _ _).mono ?_);rintro e w' ⟨rfl,rfl⟩;rw [hd]))
 generalize hw1:(w.alloc (.cells #[.int .i64 6,.slice A n cp] 32)).alloc (.cells #[.int .i64 6,.int .i64 W,.int .i64 H,.nilFunc] 100)=w1 at *
 have kt:Bk w1 w.heap.size 32 #[.int .i64 6,.slice A n cp]:=hL.k 1 (by simp)
 have km1:Bk w1 (w.heap.size+1) 100 #[.int .i64 6,.int .i64 W,.int .i64 H,.nilFunc]:=hL.k 0 (by simp)
 have hlt:=kt.lt
 obtain ⟨c0,c1⟩:=kt.cell2
 have hsz:=hL.sz
 have hAf:=fun (w':World) (hb:Below w1.heap.size w1 w')=>xm_turn A n cp W H C F G E (w.heap.size+1) w' (km1.nx hb) (fun w'' hb''=>hN w'' (((hb0.trans (hL.bel.mono hb0.size)).trans (hb.mono (Nat.le_trans hb0.size hsz))).trans (hb''.mono (Nat.le_trans (Nat.le_trans hb0.size hsz) hb.size))))
 clear hw1 hN
 have c0d:w1.drew.cell? ⟨w.heap.size,0,none⟩=some (.int .i64 6):=c0
 go_region_with (first
  | (go_at_call 45;(with_reducible refine (kinds_blk _).mono ?_);rintro e wk ⟨rfl,hKk,hbk'⟩;have hbk:Below w1.heap.size w1 wk:=Below.trans (by go_grown) (hbk'.mono (by first | exact Nat.le_refl _|simp));have kc:=hKk.cell 20;simp at kc;have d0:=(hbk.cell (p:=⟨w.heap.size,0,none⟩) hlt).trans c0;have d1:=(hbk.cell (p:=⟨w.heap.size,1,none⟩) hlt).trans c1)
  | (go_at_call 94;(with_reducible refine (hAf _ (by exact hbk)).mono ?_);rintro e wa ⟨p,rfl,hR,hba'⟩;have hba:Below w1.heap.size w1 wa:=hbk.trans (hba'.mono hbk.size)))
 all_goals
  have hLa:=hL.nx hba
  have km:Bk wa (w.heap.size+1) 100 #[.int .i64 6,.int .i64 W,.int .i64 H,.nilFunc]:=hLa.k 0 (by simp)
  have hlt2:w.heap.size+1<w1.heap.size:=km1.lt
  have hkz:=hbk.size
  have hbw:=hLa.bel
  have hwaz:=hba'.size
  clear hL hLa hAf kt km1 c0 c1 hd hba' hKk kc
  by_cases h1:C=0
  ·obtain ⟨g,rfl,hg,hAt⟩:=hR h1
   obtain ⟨d0,d1,d2,d3⟩:=km.cell4
   have f3:=km.frozen 3
   have kM:=km.set 3 (.func (.func 174) #[.pointer (some ⟨g,0,none⟩)] #[])
   simp only [List.setIfInBounds_toArray,List.set_cons_zero,List.set_cons_succ] at kM
   have hbf:=hbw.setCell (p:=⟨w.heap.size+1,3,none⟩) (by simp) (.func (.func 174) #[.pointer (some ⟨g,0,none⟩)] #[])
   have hMp:MapFn w.heap.size (wa.setCell ⟨w.heap.size+1,3,none⟩ (.func (.func 174) #[.pointer (some ⟨g,0,none⟩)] #[])).heap.size (wa.setCell ⟨w.heap.size+1,3,none⟩ (.func (.func 174) #[.pointer (some ⟨g,0,none⟩)] #[])) (some ⟨w.heap.size+1,0,none⟩) F G E:=by
    intro w3 hs3 hk x y d
    rw [World.size_setCell] at hs3 hk
    refine xat_turn (w.heap.size+1) g 6 W H x y d _ _ _ w3 (kM.same (hk _ (by omega) (by omega))) (hAt w3 hs3 (fun i hi1 hi2=>?_) x y d)
    have hi3:w1.heap.size≤i:=Nat.le_trans hkz hi1
    rw [hk i (by omega) hi2]
    exact Below.heap_setCell wa ⟨w.heap.size+1,3,none⟩ _ i (by simp;omega)
   subst h1
   clear hR hg hkz km hAt
   go_wp2_with fail
   go_returns
   first
    | exact ⟨_,rfl,⟨hMp,_,rfl,Nat.le_succ _,_,kM⟩,hbf⟩
    | exact ⟨_,rfl,fun h=>absurd rfl h,fun _=>⟨hMp,_,rfl,Nat.le_succ _,_,kM⟩,hbf⟩
  ·have hb:(C != 0)=true:=by simp [h1]
   have hne:=Lib.hid h1
   clear hR h1 km
   go_wp2_with fail
   go_returns
   exact ⟨none,rfl,fun _=>rfl,fun h=>absurd h hne.out,hbw⟩
end Go.Proofs.YtjbelhpgbcnlmaaGreat
end
