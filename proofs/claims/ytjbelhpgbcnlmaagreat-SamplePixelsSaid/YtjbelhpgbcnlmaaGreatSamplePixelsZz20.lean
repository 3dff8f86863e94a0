/- Several texts in one: Several texts in one: The reference: numbers in whole pixels, weights, the nearest pixel. The reference's mixing of pixels. -/
import Derived.Test.YtjbelhpgbcnlmaaGreatSamplePixelsZz2
import Derived.Test.YtjbelhpgbcnlmaaGreatSamplePixelsZz7
import Derived.Test.YtjbelhpgbcnlmaaGreatSamplePixelsZz3
import Derived.Test.YtjbelhpgbcnlmaaGreatSamplePixelsZz15
import Derived.Deep.RegionHeld3
import Derived.Test.YtjbelhpgbcnlmaaGreatSamplePixelsZz19
import Derived.Test.YtjbelhpgbcnlmaaGreatSamplePixelsZz16
import Derived.Deep.Cut
import Derived.Deep.DeepCutAuto
section
section
set_option linter.unusedVariables false
namespace Go.Proofs.YtjbelhpgbcnlmaaGreat
open Go.RowKit
theorem rsplit27 (u:Int) (w:World) (h0:-9223372036854775808<u) (h1:u≤9223372036854775807):Calls Tryz.prog 199 #[.int .i64 u] w fun e w'=>e=.returned (.tuple #[.int .i64 (u/65536),.int .i64 (u%65536)])∧w=w':=by
 have hD:=fun w'=>rdown_any u 65536 w' (by omega) ⟨by omega,by omega⟩ (by omega)
 have v1:wrap64 (65536*(u/65536))=65536*(u/65536):=IntWalk.wrap64_in _ ⟨by omega,by omega⟩
 have v2:wrap64 (u-65536*(u/65536))=u%65536:=by rw [show u-65536*(u/65536)=u%65536 by omega];exact IntWalk.wrap64_in _ ⟨by omega,by omega⟩
 generalize u%65536=r at *
 generalize u/65536=q at *
 go_enter Tryz.func199,Tryz.ntmps199
 go_wp2_with (go_at_call 185;(with_reducible refine (hD _).mono ?_);rintro e w' ⟨rfl,rfl⟩)
 go_returns
 exact ⟨by first | rfl|(show Ending.returned (.tuple #[.int .i64 q,.int .i64 (wrap64 (u-65536*q))])=_;rw [v2]),rfl⟩
theorem rlin27 (f:Int) (w:World) (h0:0≤f) (h1:f≤65536):Calls Tryz.prog 203 #[.int .i64 f] w fun e w'=>e=.returned (.slice (some ⟨w.heap.size,0,none⟩) 2 2)∧Bk w' w.heap.size 2 #[.int .i64 (65536-f),.int .i64 f]∧Below w.heap.size w w':=by
 have v1:wrap64 (65536-f)=65536-f:=IntWalk.wrap64_in _ ⟨by omega,by omega⟩
 go_enter Tryz.func203,Tryz.ntmps203
 go_wp2_with fail
 go_returns
 exact ⟨rfl,Bk.new w _ _,by go_grown⟩
set_option maxRecDepth 100000 in
set_option maxHeartbeats 8000000 in
theorem rcub27 (t:Int) (w:World) (h0:0≤t) (h1:t≤256):Calls Tryz.prog 201 #[.int .i64 t] w fun e w'=>e=.returned (.slice (some ⟨w.heap.size,0,none⟩) 4 4)∧Bk w' w.heap.size 2 #[.int .i64 (cw 0 t),.int .i64 (cw 1 t),.int .i64 (cw 2 t),.int .i64 (cw 3 t)]∧Below w.heap.size w w':=by
 have e0:wrap64 (wrap64 (wrap64 (wrap64 (-t*t)*t)+wrap64 (512*t*t))-65536*t)=cw 0 t:=all257 (P:=fun t=>wrap64 (wrap64 (wrap64 (wrap64 (-t*t)*t)+wrap64 (512*t*t))-65536*t)=cw 0 t) (by decide +kernel) h0 h1
 have e1:wrap64 (wrap64 (wrap64 (wrap64 (3*t*t)*t)-wrap64 (1280*t*t))+33554432)=cw 1 t:=all257 (P:=fun t=>wrap64 (wrap64 (wrap64 (wrap64 (3*t*t)*t)-wrap64 (1280*t*t))+33554432)=cw 1 t) (by decide +kernel) h0 h1
 have e2:wrap64 (wrap64 (wrap64 (wrap64 (-3*t*t)*t)+wrap64 (1024*t*t))+65536*t)=cw 2 t:=all257 (P:=fun t=>wrap64 (wrap64 (wrap64 (wrap64 (-3*t*t)*t)+wrap64 (1024*t*t))+65536*t)=cw 2 t) (by decide +kernel) h0 h1
 have e3:wrap64 (wrap64 (wrap64 (t*t)*t)-wrap64 (256*t*t))=cw 3 t:=all257 (P:=fun t=>wrap64 (wrap64 (wrap64 (t*t)*t)-wrap64 (256*t*t))=cw 3 t) (by decide +kernel) h0 h1
 have E0:=Lib.hid e0
 have E1:=Lib.hid e1
 have E2:=Lib.hid e2
 have E3:=Lib.hid e3
 clear e0 e1 e2 e3
 go_enter Tryz.func201,Tryz.ntmps201
 go_wp2_with fail
 go_returns
 rw [E0.out,E1.out,E2.out,E3.out]
 exact ⟨rfl,Bk.new w _ _,by go_grown⟩
theorem rnearest28 (u:Int) (w:World) (h0:-70368744177664≤u) (h1:u≤70368744177664):Calls Tryz.prog 198 #[.int .i64 u] w fun e w'=>e=.returned (.int .i64 ((u+32768)/65536))∧w=w':=by
 have hD:=fun w'=>rdown_any (u+32768) 65536 w' (by omega) ⟨by omega,by omega⟩ (by omega)
 have v1:wrap64 (u+32768)=u+32768:=IntWalk.wrap64_in _ ⟨by omega,by omega⟩
 go_enter Tryz.func198,Tryz.ntmps198
 go_wp2_with (go_at_call 185;(with_reducible refine (hD _).mono ?_);rintro e w' ⟨rfl,rfl⟩)
 go_returns
 exact ⟨rfl,rfl⟩
theorem keep45 {w1 w':World} {g h:Nat} {t t':TypeId} {a b c d a' b' c' d' e':Value} (k:Bk w1 g t #[a,b,c,d]) (k':Bk w1 h t' #[a',b',c',d',e']) (hb:Below w1.heap.size w1 w') :
 (w'.cell? ⟨g,0,none⟩=some a∧w'.cell? ⟨g,1,none⟩=some b∧w'.cell? ⟨g,2,none⟩=some c∧w'.cell? ⟨g,3,none⟩=some d)∧(w'.cell? ⟨h,0,none⟩=some a'∧w'.cell? ⟨h,1,none⟩=some b'∧w'.cell? ⟨h,2,none⟩=some c'∧w'.cell? ⟨h,3,none⟩=some d'∧w'.cell? ⟨h,4,none⟩=some e')∧Below w1.heap.size w1 w' :=
 ⟨(k.nx hb).cell4,(k'.nx hb).cell5,hb⟩
set_option maxRecDepth 100000 in
set_option maxHeartbeats 8000000 in
theorem rat28 (W H:Int) (C:Nat) (A:Option Addr) (n cp:Nat) (P:List Int) (m a b c d u v:Int) (w:World) {B:Nat} (h:checkC W H C n=0) (hP:P.length=n) (hr:Rd w B A (P.map (Value.int .u8))) (hB:B≤w.heap.size) (hcp:n≤cp)
 (hu:-70368744177664≤u∧u≤70368744177664) (hv:-70368744177664≤v∧v≤70368744177664) :
 Calls Tryz.prog 122 #[imgV W H C A n cp,bordV m a b c d,.int .i64 u,.int .i64 v] w fun e w'=>∃ s,e=.returned s∧w'.ownsRow w.heap.size 5 1 s C ((pxl P W H C m a b c d ((u+32768)/65536) ((v+32768)/65536)).map (Value.int .u8))∧Below w.heap.size w w':=by
 have hX:=fun w'=>rnearest28 u w' hu.1 hu.2
 have hY:=fun w'=>rnearest28 v w' hv.1 hv.2
 have hPx:=fun (w':World) (hb:Below w.heap.size w w')=>rpixel_any W H C A n cp P m a b c d ((u+32768)/65536) ((v+32768)/65536) w' h hP (hr.below' hb hB) (Nat.le_trans hB hb.size) hcp ⟨by omega,by omega⟩ ⟨by omega,by omega⟩
 have hL:=((Lie.start w).alloc #[.int .i64 W,.int .i64 H,.int .i64 C,.slice A n cp] 24).alloc #[.int .i64 m,.int .u8 a,.int .u8 b,.int .u8 c,.int .u8 d] 27
 simp only [World.size_alloc] at hL
 clear h hP hr hB hcp hu hv
 generalize (u+32768)/65536=x at *
 generalize (v+32768)/65536=y at *
 generalize pxl P W H C m a b c d x y=L at *
 go_enter Tryz.func122,Tryz.ntmps122
 go_upto_region 1 with fail
 obtain ⟨g5,hg5⟩:∃ g5,w.heap.size+1=g5:=⟨_,rfl⟩
 rw [hg5] at hL
 simp only [hg5]
 generalize (w.alloc (.cells #[.int .i64 W,.int .i64 H,.int .i64 C,.slice A n cp] 24)).alloc (.cells #[.int .i64 m,.int .u8 a,.int .u8 b,.int .u8 c,.int .u8 d] 27)=w5 at *
 clear hg5
 have k4:Bk w5 w.heap.size 24 _:=hL.k 1 (by simp)
 have k5:Bk w5 g5 27 _:=hL.k 0 (by simp)
 obtain ⟨i0,i1,i2,i3⟩:=k4.cell4
 obtain ⟨j0,j1,j2,j3,j4⟩:=k5.cell5
 go_region_held3 (fun w'=>(w'.cell? ⟨w.heap.size,0,none⟩=some (.int .i64 W)∧w'.cell? ⟨w.heap.size,1,none⟩=some (.int .i64 H)∧w'.cell? ⟨w.heap.size,2,none⟩=some (.int .i64 C)∧w'.cell? ⟨w.heap.size,3,none⟩=some (.slice A n cp))∧(w'.cell? ⟨g5,0,none⟩=some (.int .i64 m)∧w'.cell? ⟨g5,1,none⟩=some (.int .u8 a)∧w'.cell? ⟨g5,2,none⟩=some (.int .u8 b)∧w'.cell? ⟨g5,3,none⟩=some (.int .u8 c)∧w'.cell? ⟨g5,4,none⟩=some (.int .u8 d))∧Below w5.heap.size w5 w')
  (first | with_reducible exact keep45 k4 k5 hB7|(refine keep45 k4 k5 ?_;go_grown))
  (first
    | (go_at_call 198;(with_reducible refine (hX _).mono ?_);rintro e w1 ⟨rfl,rfl⟩)
    | (go_at_call 198;(with_reducible refine (hY _).mono ?_);rintro e w1 ⟨rfl,rfl⟩)
    | (go_at_call 197;(with_reducible refine (hPx _ (by first | exact hL.bel|exact hL.bel.drew|exact hL.bel.drew.drew)).mono ?_);rintro e w7 ⟨s7,rfl,ho7,hb7⟩;have hB7:Below w5.heap.size w5 w7:=Below.trans (by go_grown) hb7))
 all_goals
  rename_i hHeld
  clear hHeld
  go_wp2_with fail
  go_returns
  exact ⟨_,rfl,own_base ho7 (by first | exact hL.sz|(show w.heap.size≤w5.heap.size;exact hL.sz)),hL.bel.trans (hB7.mono hL.sz)⟩
end Go.Proofs.YtjbelhpgbcnlmaaGreat
end
section
set_option linter.unusedVariables false
namespace Go.Proofs.YtjbelhpgbcnlmaaGreat
open Go.RowKit
def SlR (w:World) (B:Nat) (v:Value) (L:List Int):Prop:=∃ (A:Option Addr) (c:Nat),v=.slice A L.length c∧Rd w B A (L.map (Value.int .u8))
def PxsAt (w:World) (B:Nat) (A:Option Addr) (Ls:List (List Int)):Prop:=∃ vs:List Value,Rd w B A vs∧vs.length=Ls.length∧∀ (i:Nat) (h:i<Ls.length) (h':i<vs.length),SlR w B vs[i] Ls[i]
section
variable {w w':World} {B:Nat} {A:Option Addr} {Ls:List (List Int)} {v:Value} {L:List Int}
theorem SlR.below (h:SlR w B v L) (hb:Below B w w'):SlR w' B v L:=by
 obtain ⟨A,c,e,hr⟩:=h
 exact ⟨A,c,e,hr.below hb⟩
theorem PxsAt.below (h:PxsAt w B A Ls) (hb:Below B w w'):PxsAt w' B A Ls:=by
 obtain ⟨vs,h1,h2,h3⟩:=h
 exact ⟨vs,h1.below hb,h2,fun i a b=>(h3 i a b).below hb⟩
theorem PxsAt.get (h:PxsAt w B A Ls) (i k:Nat) (hi:i<Ls.length) (hk:k<Ls[i].length):∃ (b o bi oi ci:Nat),A=some ⟨b,o,none⟩∧b<B∧bi<B∧w.cell? ⟨b,o+i,none⟩=some (.slice (some ⟨bi,oi,none⟩) Ls[i].length ci)∧w.cell? ⟨bi,oi+k,none⟩=some (.int .u8 (Ls[i].getD k 0)):=by
 obtain ⟨vs,h1,h2,h3⟩:=h
 obtain ⟨b,o,rfl,hb,hc⟩:=h1 i (by omega)
 obtain ⟨Ai,ci,e,hr⟩:=h3 i hi (by omega)
 obtain ⟨bi,oi,rfl,hbi,hci⟩:=hr k (by simpa using hk)
 refine ⟨b,o,bi,oi,ci,rfl,hb,hbi,by rw [hc,e],?_⟩
 rw [hci,List.getElem_map,List.getD_eq_getElem?_getD,List.getElem?_eq_getElem hk];rfl
end
def mxW (cs rs:List Int) (i:Nat):Int:=cs.getD (i%cs.length) 0*rs.getD (i/cs.length) 0
def mixS (cs rs:List Int) (Ls:List (List Int)) (k:Nat):Nat→Int
 | 0=>0
 | i+1=>mixS cs rs Ls k i+mxW cs rs i*(Ls.getD i []).getD k 0
theorem mixS_bd {cs rs:List Int} {Ls:List (List Int)} {k:Nat} (hw:∀ i,-1125899906842624≤mxW cs rs i∧mxW cs rs i≤1125899906842624) (hb:∀ i,0≤(Ls.getD i []).getD k 0∧(Ls.getD i []).getD k 0≤255):∀ n:Nat,-(n*287104476244869120)≤mixS cs rs Ls k n∧mixS cs rs Ls k n≤n*287104476244869120
 | 0=>by simp [mixS]
 | n+1=>by
   have ih:=mixS_bd hw hb n
   have:=mulU_bd (M:=1125899906842624) (by omega) (hw n) (hb n)
   simp only [mixS]
   omega
theorem big_sh {lo:Nat} {w:World} {v:Value} {z:Int} (h:BigN lo w v z):∃ s A n c,v=.agg #[.bool s,.slice A n c]:=h.shape
theorem keepM {w1 w':World} {b1 o1 b2 o2:Nat} {u v:Value} (h1:w1.cell? ⟨b1,o1,none⟩=some u) (h2:w1.cell? ⟨b2,o2,none⟩=some v) (l1:b1<w1.heap.size) (l2:b2<w1.heap.size) (hb:Below w1.heap.size w1 w'):w'.cell? ⟨b1,o1,none⟩=some u∧w'.cell? ⟨b2,o2,none⟩=some v∧Below w1.heap.size w1 w' :=
 ⟨(hb.cell (by exact l1)).trans h1,(hb.cell (by exact l2)).trans h2,hb⟩
theorem keepP {w1 w':World} {g b o bi oi:Nat} {x0 x1 u v:Value} (a0:w1.cell? ⟨g,0,none⟩=some x0) (a1:w1.cell? ⟨g,1,none⟩=some x1) (h1:w1.cell? ⟨b,o,none⟩=some u) (h2:w1.cell? ⟨bi,oi,none⟩=some v) (lg:g<w1.heap.size) (l1:b<w1.heap.size) (l2:bi<w1.heap.size) (hb:Below w1.heap.size w1 w') :
 (w'.cell? ⟨g,0,none⟩=some x0∧w'.cell? ⟨g,1,none⟩=some x1)∧(w'.cell? ⟨b,o,none⟩=some u∧w'.cell? ⟨bi,oi,none⟩=some v) :=
 ⟨⟨(hb.cell (by exact lg)).trans a0,(hb.cell (by exact lg)).trans a1⟩,(hb.cell (by exact l1)).trans h1,(hb.cell (by exact l2)).trans h2⟩
theorem keepPs {w':World} {g b o bi oi q:Nat} {x0 x1 u v:Value} (h:(w'.cell? ⟨g,0,none⟩=some x0∧w'.cell? ⟨g,1,none⟩=some x1)∧(w'.cell? ⟨b,o,none⟩=some u∧w'.cell? ⟨bi,oi,none⟩=some v)) (hg:g≠q) (hb:b≠q) (hi:bi≠q) (x y:Value) :
 (((w'.setCell ⟨q,0,none⟩ x).setCell ⟨q,1,none⟩ y).cell? ⟨g,0,none⟩=some x0∧((w'.setCell ⟨q,0,none⟩ x).setCell ⟨q,1,none⟩ y).cell? ⟨g,1,none⟩=some x1)∧(((w'.setCell ⟨q,0,none⟩ x).setCell ⟨q,1,none⟩ y).cell? ⟨b,o,none⟩=some u∧((w'.setCell ⟨q,0,none⟩ x).setCell ⟨q,1,none⟩ y).cell? ⟨bi,oi,none⟩=some v):=by
 have e:∀ (p:Addr),p.block≠q→(((w'.setCell ⟨q,0,none⟩ x).setCell ⟨q,1,none⟩ y)).cell? p=w'.cell? p:=fun p hp=>by
  rw [World.cell?_setCell_other _ _ _ _ (fun e=>hp (by rw [← e])),World.cell?_setCell_other _ _ _ _ (fun e=>hp (by rw [← e]))]
 exact ⟨⟨(e _ hg).trans h.1.1,(e _ hg).trans h.1.2⟩,(e _ hb).trans h.2.1,(e _ hi).trans h.2.2⟩
set_option maxRecDepth 100000 in
set_option maxHeartbeats 16000000 in
theorem rmix29 (Ls:List (List Int)) (cs rs:List Int) (A A1 A2:Option Addr) (n c n1 m1 n2 m2 C:Nat) (vb:Value) (sc:Int) (w:World) {lo:Nat} (hn:Ls.length=n) (hP:PxsAt w w.heap.size A Ls) (hlen:∀ i (h:i<Ls.length),Ls[i].length=C)
 (h1:cs.length=n1) (hr1:Rd w w.heap.size A1 (cs.map (Value.int .i64))) (h2:rs.length=n2) (hr2:Rd w w.heap.size A2 (rs.map (Value.int .i64))) (hn0:0<n1) (hn16:n≤16) (hn1:n1≤16) (hnn:n≤n1*n2) (hC:C≤4)
 (hsb:BigN lo w vb sc) (hs0:0<sc) (hs1:sc≤1000000000000000000)
 (hcs:∀ i,-33554432≤cs.getD i 0∧cs.getD i 0≤33554432) (hrs:∀ i,-33554432≤rs.getD i 0∧rs.getD i 0≤33554432) (hby:∀ i k,0≤(Ls.getD i []).getD k 0∧(Ls.getD i []).getD k 0≤255) :
 Calls Tryz.prog 200 #[.slice A n c,.int .i64 C,.slice A1 n1 m1,.slice A2 n2 m2,vb] w fun e w'=>∃ s,e=.returned s∧w'.ownsRow w.heap.size 5 1 s C (((List.range C).map fun k=>byteZ (mixS cs rs Ls k n) sc).map (Value.int .u8))∧Below w.heap.size w w':=by
 have hw:∀ i,-1125899906842624≤mxW cs rs i∧mxW cs rs i≤1125899906842624:=fun i=>by
  have ha:=hcs (i%cs.length)
  have hb:=hrs (i/cs.length)
  unfold mxW
  generalize cs.getD (i%cs.length) 0=a at *
  generalize rs.getD (i/cs.length) 0=b at *
  have e1:0≤(a+33554432)*(33554432-b):=Int.mul_nonneg (by omega) (by omega)
  have e2:0≤(33554432-a)*(33554432+b):=Int.mul_nonneg (by omega) (by omega)
  have e3:0≤(a+33554432)*(33554432+b):=Int.mul_nonneg (by omega) (by omega)
  have e4:0≤(33554432-a)*(33554432-b):=Int.mul_nonneg (by omega) (by omega)
  rw [Int.add_mul,Int.mul_sub,Int.mul_sub] at e1
  rw [Int.sub_mul,Int.mul_add,Int.mul_add] at e2
  rw [Int.add_mul,Int.mul_add,Int.mul_add] at e3
  rw [Int.sub_mul,Int.mul_sub,Int.mul_sub] at e4
  omega
 have hS:=fun k=>mixS_bd hw (fun i=>hby i k)
 obtain ⟨sb,Ab,nb,cb,rfl⟩:=hsb.shape
 have HS:=Lib.hid hS
 have HW:=Lib.hid hw
 have HBY:=Lib.hid hby
 have HCS:=Lib.hid hcs
 have HRS:=Lib.hid hrs
 have HLE:=Lib.hid hlen
 have HN:=Lib.hid hn
 have H1:=Lib.hid h1
 have H2:=Lib.hid h2
 have HNN:=Lib.hid hnn
 clear hS hw hby hcs hrs hlen hn h1 h2 hnn
 have hL:=(Lie.start w).alloc #[.bool sb,.slice Ab nb cb] 166
 obtain ⟨bt,hbt⟩:∃ bt:Nat→Int,bt=fun k=>byteZ (mixS cs rs Ls k n) sc:=⟨_,rfl⟩
 have HBT:=Lib.hid hbt
 rw [show ((List.range C).map fun k=>byteZ (mixS cs rs Ls k n) sc)=(List.range C).map bt by rw [hbt]]
 clear hbt
 go_enter Tryz.func200,Tryz.ntmps200
 go_wp2_with fail
 go_loopw [11,12] (fun v iv wr=>∃ k:Nat,k≤C∧iv=.int .i64 k∧wr.ownsRow (w.heap.size+1) 5 1 v k (((List.range k).map bt).map (Value.int .u8))∧Lie w [(w.heap.size,166,#[.bool sb,.slice Ab nb cb])] wr∧w.heap.size+1≤wr.heap.size) (fun _ iv _=>C-(intOf iv).toNat)
 case atStart=>exact ⟨0,by omega,rfl,World.ownsRow_nil _ _ _ _,hL,by simp⟩
 case round =>
  clear hL
  obtain ⟨k,hk,rfl,hown,hLi,hsz⟩:=hrel
  obtain ⟨wq,rfl⟩:∃ wq:World,wq=wr:=⟨_,rfl⟩
  by_cases hlt:k<C
  ·go_wp2_with (go_at_call 132;(with_reducible refine (of_any 0 _ (by omega) (by omega)).mono ?_);rintro e w1 ⟨v1,rfl,hN1,hb1⟩;obtain ⟨s1,A13,n13,c13,rfl⟩:=hN1.shape)
   have hzr:=hb1.size
   have hoff1:=hN1.off (g:=some w1.heap.size) (fun k hk=>.inr (by injection hk;omega))
   have hb2:=hb1.alloc hzr (.cells #[.bool s1,.slice A13 n13 c13] 166)
   go_loopw [14] (fun iv wi=>∃ (i:Nat) (s:Bool) (A:Option Addr) (m c:Nat),i≤n∧iv=.int .i64 i∧Bk wi w1.heap.size 166 #[.bool s,.slice A m c]∧BigN wq.heap.size wi (.agg #[.bool s,.slice A m c]) (mixS cs rs Ls k i)∧Off (some w1.heap.size) (.agg #[.bool s,.slice A m c])∧Below wq.heap.size wq wi) (fun iv _=>n-(intOf iv).toNat)
   case atStart=>exact ⟨0,s1,A13,n13,c13,by omega,rfl,Bk.new w1 _ _,hN1.alloc _,hoff1,hb2⟩
   case round =>
    clear hN1 hb1 hb2 hoff1
    obtain ⟨i,s3,A3,m3,c3,hi,rfl,hK3,hN3,hoff3,hbi⟩:=hrel
    obtain ⟨wi,rfl⟩:∃ wi:World,wi=wr:=⟨_,rfl⟩
    by_cases hil:i<n
    ·have hbw:=hLi.bel.trans (hbi.mono hLi.sz)
     have hiL:i<Ls.length:=by rw [HN.out];exact hil
     have hCi:=HLE.out i hiL
     obtain ⟨b,o,bi,oi,ci,rfl,hbB,hbiB,q0,q1⟩:=(hP.below hbw).get i k hiL (by omega)
     rw [hCi] at q0
     have hbj:=HBY.out i k
     have hLs:Ls.getD i []=Ls[i]:=by rw [List.getD_eq_getElem?_getD,List.getElem?_eq_getElem hiL];rfl
     rw [hLs] at hbj
     have HMX:Hid (mixS cs rs Ls k (i+1)=mixS cs rs Ls k i+mxW cs rs i*Ls[i].getD k 0):=by show _=_;rw [← hLs];rfl
     have hmi:=HS.out k i
     have hmi1:=HS.out k (i+1)
     have hwi:=HW.out i
     have hi16:(i:Int)*287104476244869120≤15*287104476244869120:=Int.mul_le_mul_of_nonneg_right (by omega) (by omega)
     have hWD:Hid (mxW cs rs i=cs.getD (i%n1) 0*rs.getD (i/n1) 0):=by show _=_;unfold mxW;rw [H1.out]
     have e1n:i%n1<n1:=Nat.mod_lt _ hn0
     have e2n:i/n1<n2:=Nat.div_lt_of_lt_mul (by have:=HNN.out;omega)
     obtain ⟨b1,o1,rfl,hb1B,hc1⟩:=(hr1.below hbw).get (i%n1) (by rw [List.length_map,H1.out];exact e1n)
     obtain ⟨b2,o2,rfl,hb2B,hc2⟩:=(hr2.below hbw).get (i/n1) (by rw [List.length_map,H2.out];exact e2n)
     have hx:(cs.map (Value.int .i64))[i%n1]'(by rw [List.length_map,H1.out];exact e1n)=.int .i64 (cs.getD (i%n1) 0):=by
      rw [List.getElem_map,List.getD_eq_getElem?_getD,List.getElem?_eq_getElem (by rw [H1.out];exact e1n)];rfl
     have hy:(rs.map (Value.int .i64))[i/n1]'(by rw [List.length_map,H2.out];exact e2n)=.int .i64 (rs.getD (i/n1) 0):=by
      rw [List.getElem_map,List.getD_eq_getElem?_getD,List.getElem?_eq_getElem (by rw [H2.out];exact e2n)];rfl
     rw [hx] at hc1
     rw [hy] at hc2
     have hxb:=HCS.out (i%n1)
     have hyb:=HRS.out (i/n1)
     have hzi:=hbi.size
     have l1:b1<wi.heap.size:=by have:=hLi.sz;omega
     have l2:b2<wi.heap.size:=by have:=hLi.sz;omega
     clear hx hy hLs
     generalize cs.getD (i%n1) 0=X at *
     generalize rs.getD (i/n1) 0=Y at *
     generalize Ls[i].getD k 0=Z at *
     obtain ⟨j1,hj1⟩:∃ j,i%n1=j:=⟨_,rfl⟩
     obtain ⟨j2,hj2⟩:∃ j,i/n1=j:=⟨_,rfl⟩
     rw [hj1] at hc1 e1n
     rw [hj2] at hc2 e2n
     have t1:(i:Int)%(n1:Int)=j1:=by rw [← hj1];exact (Int.natCast_emod i n1).symm
     have t2:(i:Int)/(n1:Int)=j2:=by rw [← hj2];exact (Int.natCast_ediv i n1).symm
     have t3:(i:Int).tmod (n1:Int)=j1:=by rw [Int.tmod_eq_emod_of_nonneg (by omega)];exact t1
     have t4:(i:Int).tdiv (n1:Int)=j2:=by rw [Int.tdiv_eq_ediv_of_nonneg (by omega)];exact t2
     have hz1:¬((n1:Int)=0):=by omega
     have hz6:¬(n1=0):=by omega
     have hz3:(1:Int)≤(n1:Int):=by omega
     have hz4:(0:Int)≤(i:Int):=by omega
     have hz5:(i:Int)≤9223372036854775807:=by omega
     have hz2:((n1:Int)==0)=false:=by simp;omega
     have hj1a:(0:Int)≤(j1:Int):=by omega
     have hj1b:(j1:Int)<(n1:Int):=by omega
     have hj2a:(0:Int)≤(j2:Int):=by omega
     have hj2b:(j2:Int)<(n2:Int):=by omega
     have hw1:IntKind.i64.wrap (j1:Int)=j1:=IntWalk.i64_in _ ⟨by omega,by omega⟩
     have hw2:IntKind.i64.wrap (j2:Int)=j2:=IntWalk.i64_in _ ⟨by omega,by have:=Nat.div_le_self i n1;omega⟩
     have sX:Sm X:=sm_of (by omega) (by omega)
     have sY:Sm Y:=sm_of (by omega) (by omega)
     have hOX:=fun w'=>of_any X w' (by omega) (by omega)
     have hOY:=fun w'=>of_any Y w' (by omega) (by omega)
     go_upto_region 10 with fail
     go_cut [15] (fun p wx=>∃ (g:Nat) (s:Bool) (A:Option Addr) (n c:Nat),p=.pointer (some ⟨g,0,none⟩)∧wi.heap.size≤g∧Bk wx g 166 #[.bool s,.slice A n c]∧BigN wi.heap.size wx (.agg #[.bool s,.slice A n c]) (X*Y)∧Off (some g) (.agg #[.bool s,.slice A n c])∧Below wi.heap.size wi wx)
     case first =>
      go_region_held3 (fun w'=>w'.cell? ⟨b1,o1+j1,none⟩=some (.int .i64 X)∧w'.cell? ⟨b2,o2+j2,none⟩=some (.int .i64 Y)∧Below wi.heap.size wi w')
       (first
         | exact keepM hc1 hc2 l1 l2 hBc
         | exact keepM hc1 hc2 l1 l2 hBb
         | exact keepM hc1 hc2 l1 l2 hBa
         | (refine keepM hc1 hc2 l1 l2 ?_;(first | done|exact Below.alloc hBc hBc.size _|exact Below.alloc hBb hBb.size _|exact Below.alloc hBa hBa.size _|go_grown)))
       (first
         | (go_at_call 132;(with_reducible refine (hOX _).mono ?_);rintro e wa ⟨va,rfl,hNa,hba⟩;obtain ⟨sa,Aa,na,ca,rfl⟩:=hNa.shape;have hBa:Below wi.heap.size wi wa:=Below.trans (by go_grown) (hba.mono (by simp));(try (have hKa:Bk wa wi.heap.size 166 #[.bool false,.slice none 0 0]:=(Bk.new wi.drew 166 #[.bool false,.slice none 0 0]).nx hba)))
         | (go_at_call 132;(with_reducible refine (hOY _).mono ?_);rintro e wb ⟨vb',rfl,hNb,hbb⟩;obtain ⟨sb',Ab',nb',cb',rfl⟩:=hNb.shape;have hBb:Below wi.heap.size wi wb:=Below.trans (by first | exact hBa|exact Below.alloc hBa hBa.size _) (hbb.mono (by first | exact hBa.size|exact (Below.alloc hBa hBa.size _).size));have hNab:=hNa.nx (by first | exact hbb|exact Below.trans ((Below.refl _ _).alloc (Nat.le_refl _) _) (hbb.mono (by simp)));(try (have hKb:Bk wb wi.heap.size 166 #[.bool false,.slice none 0 0]:=hKa.nx hbb));(try (have hKb:Bk wb wa.heap.size 166 #[.bool false,.slice none 0 0]:=(Bk.new wa 166 #[.bool false,.slice none 0 0]).nx hbb)))
         | (go_at_call 181;(with_reducible refine (mul_any _ _ X Y _ (hNab.nx (by first | exact Below.refl _ _|exact (Below.refl _ _).alloc (Nat.le_refl _) _)) (hNb.nx (by first | exact Below.refl _ _|exact (Below.refl _ _).alloc (Nat.le_refl _) _)) sX sY).mono ?_);rintro e wc' ⟨vc,rfl,hNc,hbc⟩;obtain ⟨sc',Ac,nc,cc,rfl⟩:=hNc.shape;have hBc:Below wi.heap.size wi wc':=Below.trans (by first | exact hBb|exact Below.alloc hBb hBb.size _) (hbc.mono (by first | exact hBb.size|exact (Below.alloc hBb hBb.size _).size));(try (have hKc:Bk wc' wi.heap.size 166 #[.bool false,.slice none 0 0]:=hKb.nx hbc;have hgc:wi.heap.size≤wi.heap.size:=Nat.le_refl _;have hgd:wi.heap.size<wb.heap.size:=hKb.lt;obtain ⟨u0,u1⟩:=hKc.cell2;have f0:=hKc.frozen 0;have f1:=hKc.frozen 1));(try (have hKc:Bk wc' wa.heap.size 166 #[.bool false,.slice none 0 0]:=hKb.nx hbc;have hgc:wi.heap.size≤wa.heap.size:=hBa.size;have hgd:wa.heap.size<wb.heap.size:=hKb.lt;obtain ⟨u0,u1⟩:=hKc.cell2;have f0:=hKc.frozen 0;have f1:=hKc.frozen 1));(try (have hKc:Bk wc' wb.heap.size 166 #[.bool false,.slice none 0 0]:=(Bk.new wb 166 #[.bool false,.slice none 0 0]).nx hbc;have hgc:wi.heap.size≤wb.heap.size:=hBb.size;obtain ⟨u0,u1⟩:=hKc.cell2;have f0:=hKc.frozen 0;have f1:=hKc.frozen 1))))
      all_goals
       go_wp2_with fail
       go_meet
       first
        | exact ⟨_,_,_,_,_,rfl,hBc.size,Bk.new wc' _ _,(hNc.alloc _).less hBb.size,hNc.off (fun k hk=>.inr (by injection hk;omega)),Below.alloc hBc hBc.size _⟩
        | exact ⟨_,_,_,_,_,rfl,hgc,hKc.set2 _ _,(hNc.grown (gb2 wc' _ _ _) (.inl hgd)).less hBb.size,hNc.off (fun k hk=>.inl (by injection hk with hk;rw [← hk];exact hgd)),below_of_gb hBc (gb2 wc' _ _ _) hgc hBc.size⟩
        | exact ⟨_,_,_,_,_,rfl,hgc,hKc.set2 _ _,(hNc.grown (gb2 wc' _ _ _) (.inl (by simp))).less (Nat.le_trans hBb.size (by simp)),hNc.off (fun k hk=>.inl (by injection hk with hk;rw [← hk];simp)),below_of_gb hBc (gb2 wc' _ _ _) hgc hBc.size⟩
     case rest =>
      obtain ⟨g,sx,Ax,nx,cx,rfl,hg,hK5,hNx,hoffx,hBx⟩:=hcut
      obtain ⟨w4,rfl⟩:∃ w4:World,w4=wc:=⟨_,rfl⟩
      have hK3x:=hK3.nx hBx
      have hN3x:=hN3.keep hBx (Nat.le_refl _)
      have hbx:=hbi.trans (hBx.mono hbi.size)
      have hwq:w.heap.size≤wq.heap.size:=hLi.sz
      have h0:=(hBx.cell (p:=⟨b,o+i,none⟩) (by show b<_;omega)).trans q0
      have h1:=(hBx.cell (p:=⟨bi,oi+k,none⟩) (by show bi<_;omega)).trans q1
      have lb:b<w4.heap.size:=by have:=hBx.size;omega
      have lbi:bi<w4.heap.size:=by have:=hBx.size;omega
      have hne:g≠w1.heap.size:=by have:=hK3.lt;omega
      have hOZ:=fun w'=>of_any Z w' (by omega) (by omega)
      have hXY:X*Y=mxW cs rs i:=hWD.out.symm
      have uz:IntKind.i64.wrap Z=Z:=IntWalk.i64_in _ ⟨by omega,by omega⟩
      have uz2:wrap64 Z=Z:=IntWalk.wrap64_in _ ⟨by omega,by omega⟩
      rw [hXY] at hNx
      generalize mxW cs rs i=W at *
      have hWZ:=mulU_bd (M:=1125899906842624) (by omega) hwi hbj
      have sZ:Sm Z:=sm_of (by omega) (by omega)
      have sW:Sm W:=sm_of (by omega) (by omega)
      have sP:Sm (W*Z):=sm_of (by omega) (by omega)
      have hmi':=hmi
      generalize hMI:mixS cs rs Ls k i=M at *
      have sM:Sm M:=sm_of (by omega) (by omega)
      clear hMI q0 q1 hc1 hc2 hOX hOY t1 t2 t3 t4 hXY hxb hyb sX sY hWD hj1 hj2 hw1 hw2 hj1a hj1b hj2a hj2b e1n e2n hz1 hz2 hz3 hz4 hz5 hz6 hK3 hN3 hbi hBx hmi hmi1 hWZ hwi
      obtain ⟨c0,c1⟩:=hK3x.cell2
      obtain ⟨x0,x1⟩:=hK5.cell2
      have hlg:=hK5.lt
      have hneb:b≠w1.heap.size:=by have:=hLi.sz;omega
      have hnei:bi≠w1.heap.size:=by have:=hLi.sz;omega
      go_upto_region 11 with fail
      have hkb:Below w4.heap.size w4 w4.drew:=(Below.refl _ _).drew
      have hKd:=hK3x.drew
      obtain ⟨c0d,c1d⟩:=hKd.cell2
      refine wp_region_held_drew (S:=fun w'=>(w'.cell? ⟨g,0,none⟩=some (.bool sx)∧w'.cell? ⟨g,1,none⟩=some (.slice Ax nx cx))∧(w'.cell? ⟨b,o+i,none⟩=some (.slice (some ⟨bi,oi,none⟩) C ci)∧w'.cell? ⟨bi,oi+k,none⟩=some (.int .u8 Z))) (by kernel_rfl) (keepP x0 x1 h0 h1 hlg lb lbi hkb) (fun hHeld=>?_)
      refine wpAnyH_take (i:=1) (v:=?_) rfl (by kernel_rfl) (by kernel_rfl) (by kernel_rfl) (fun _ _ _ h=>h) (Or.inl ⟨by rfl,?_⟩) (by assumption) ?_
      rotate_left
      ·(intro w hSw;(try dsimp only at hSw);go_simp;try with_reducible rfl)
      refine wpAnyH_take (i:=2) (v:=?_) rfl (by kernel_rfl) (by kernel_rfl) (by kernel_rfl) (fun _ _ _ h=>h) (Or.inl ⟨by rfl,?_⟩) (by assumption) ?_
      rotate_left
      ·(intro w hSw;(try dsimp only at hSw);go_simp;try with_reducible rfl)
      refine wpAnyH_take (i:=3) (v:=?_) rfl (by kernel_rfl) (by kernel_rfl) (by kernel_rfl) (fun _ _ _ h=>h) (Or.inl ⟨by rfl,?_⟩) (by assumption) ?_
      rotate_left
      ·(intro w hSw;(try dsimp only at hSw);go_simp;try with_reducible rfl)
      refine wpAnyH_take (i:=4) (v:=?_) rfl (by kernel_rfl) (by kernel_rfl) (by kernel_rfl) (fun _ _ _ h=>h) (Or.inl ⟨by rfl,?_⟩) (by assumption) ?_
      rotate_left
      ·(intro w hSw;(try dsimp only at hSw);go_simp;try with_reducible rfl)
      refine wpAnyH_take (i:=5) (v:=?_) rfl (by kernel_rfl) (by kernel_rfl) (by kernel_rfl) (fun _ _ _ h=>h) (Or.inl ⟨by rfl,?_⟩) (by assumption) ?_
      rotate_left
      ·(intro w hSw;(try dsimp only at hSw);go_simp;try with_reducible rfl)
      refine wpAnyH_take (i:=6) (v:=?_) rfl (by kernel_rfl) (by kernel_rfl) (by kernel_rfl) (fun _ _ _ h=>h) (Or.inl ⟨by rfl,?_⟩) (by assumption) ?_
      rotate_left
      ·(intro w hSw;(try dsimp only at hSw);go_simp;try with_reducible rfl)
      refine wpAnyH_take (i:=7) (v:=?_) rfl (by kernel_rfl) (by kernel_rfl) (by kernel_rfl) (fun _ _ _ h=>h) (Or.inl ⟨by rfl,?_⟩) (by assumption) ?_
      rotate_left
      ·(intro w hSw;(try dsimp only at hSw);go_simp;try with_reducible rfl)
      refine wpAnyH_take (i:=8) (v:=?_) rfl (by kernel_rfl) (by kernel_rfl) (by kernel_rfl) (fun _ _ _ h=>h) (Or.inl ⟨by rfl,?_⟩) (by assumption) ?_
      rotate_left
      ·(intro w hSw;(try dsimp only at hSw);go_simp;try with_reducible rfl)
      refine wpAnyH_take (i:=9) (v:=?_) rfl (by kernel_rfl) (by kernel_rfl) (by kernel_rfl) (fun _ _ _ h=>h) (Or.inl ⟨by rfl,?_⟩) (by assumption) ?_
      rotate_left
      ·(intro w hSw;(try dsimp only at hSw);go_simp;try with_reducible rfl)
      refine wpAnyH_ready (rs:=[0,10]) (by kernel_rfl) (by simp) ?_
      refine AllReadyH.cons rfl (fun K hK=>?_) (AllReadyH.cons rfl (fun K hK=>?_) AllReadyH.nil)
      ·go_simp
       refine hK.out _ _ (by exact hHeld) (fun hHeld=>?_)
       clear hK K
       refine wpAnyH_ready (rs:=[10]) (by kernel_rfl) (by simp) ?_
       refine AllReadyH.cons rfl (fun K hK=>?_) AllReadyH.nil
       go_simp
       refine (hOZ _).mono ?_
       rintro e wa ⟨va,rfl,hNa,hba⟩
       obtain ⟨sa,Aa,na,ca,rfl⟩:=hNa.shape
       have hBa:Below w4.heap.size w4 wa:=Below.trans (by go_grown) hba
       have hK3a:=hK3x.nx hBa
       obtain ⟨y0,y1⟩:=hK3a.cell2
       go_simp
       refine hK.out _ _ (keepP x0 x1 h0 h1 hlg lb lbi hBa) (fun hHeld=>?_)
       clear hK K
       refine wpAnyH_ready (rs:=[11]) (by kernel_rfl) (by simp) ?_
       refine AllReadyH.cons rfl (fun K hK=>?_) AllReadyH.nil
       go_simp
       refine (mul_any _ _ W Z _ (hNx.nx hBa) hNa sW sZ).mono ?_
       rintro e wb ⟨vb',rfl,hNb,hbb⟩
       obtain ⟨sb',Ab',nb',cb',rfl⟩:=hNb.shape
       have hBb:Below w4.heap.size w4 wb:=Below.trans hBa (hbb.mono hBa.size)
       have hK3b:=hK3x.nx hBb
       obtain ⟨z0,z1⟩:=hK3b.cell2
       go_simp
       refine hK.out _ _ (keepP x0 x1 h0 h1 hlg lb lbi hBb) (fun hHeld=>?_)
       clear hK K
       refine wpAnyH_ready (rs:=[12]) (by kernel_rfl) (by simp) ?_
       refine AllReadyH.cons rfl (fun K hK=>?_) AllReadyH.nil
       go_simp
       refine (add_any _ _ M (W*Z) _ (hN3x.nx hBb) hNb sM sP).mono ?_
       rintro e wd ⟨vd,rfl,hNd,hbd⟩
       obtain ⟨sd,Ad,nd,cd,rfl⟩:=hNd.shape
       have hBd:Below w4.heap.size w4 wd:=Below.trans hBb (hbd.mono hBb.size)
       have hK3d:=hK3x.nx hBd
       obtain ⟨k0,k1⟩:=hK3d.cell2
       have f0:=hK3d.frozen 0
       have f1:=hK3d.frozen 1
       go_simp
       refine hK.out _ _ (keepP x0 x1 h0 h1 hlg lb lbi hBd) (fun hHeld=>?_)
       clear hK K
       refine wpAnyH_ready (rs:=[13]) (by kernel_rfl) (by simp) ?_
       refine AllReadyH.cons rfl (fun K hK=>?_) AllReadyH.nil
       go_simp
       refine hK.out _ _ (keepPs (keepP x0 x1 h0 h1 hlg lb lbi hBd) hne hneb hnei _ _) (fun hHeld=>?_)
       clear hK K
       refine wpAnyH_done (by kernel_rfl) ?_ _
       go_wp2_with fail
       have hMs:mixS cs rs Ls k (i+1)=M+W*Z:=HMX.out
       have hzb:=hBd.size
       have hza:=hBb.size
       have hzo:=hbx.size
       refine ⟨⟨i+1,sd,Ad,nd,cd,by omega,by go_num,hK3d.set2 _ _,?_,hNd.off (fun k hk=>.inl (by injection hk with hk;rw [← hk];have:=hK3x.lt;omega)),?_⟩,by simp [intOf];omega⟩
       ·rw [hMs]
        exact (hNd.grown (gb2 wd _ _ _) (.inl (by have:=hK3x.lt;omega))).less (by omega)
       ·exact below_of_gb (hbx.trans (hBd.mono hzo)) (gb2 wd _ _ _) (by omega) (by omega)
      ·go_simp
       refine (hOZ _).mono ?_
       rintro e wa ⟨va,rfl,hNa,hba⟩
       obtain ⟨sa,Aa,na,ca,rfl⟩:=hNa.shape
       have hBa:Below w4.heap.size w4 wa:=Below.trans (by go_grown) hba
       have hK3a:=hK3x.nx hBa
       obtain ⟨y0,y1⟩:=hK3a.cell2
       go_simp
       refine hK.out _ _ (keepP x0 x1 h0 h1 hlg lb lbi hBa) (fun hHeld=>?_)
       clear hK K
       refine wpAnyH_ready (rs:=[0,11]) (by kernel_rfl) (by simp) ?_
       refine AllReadyH.cons rfl (fun K hK=>?_) (AllReadyH.cons rfl (fun K hK=>?_) AllReadyH.nil)
       ·go_simp
        refine hK.out _ _ (by exact hHeld) (fun hHeld=>?_)
        clear hK K
        refine wpAnyH_ready (rs:=[11]) (by kernel_rfl) (by simp) ?_
        refine AllReadyH.cons rfl (fun K hK=>?_) AllReadyH.nil
        go_simp
        refine (mul_any _ _ W Z _ (hNx.nx hBa) hNa sW sZ).mono ?_
        rintro e wb ⟨vb',rfl,hNb,hbb⟩
        obtain ⟨sb',Ab',nb',cb',rfl⟩:=hNb.shape
        have hBb:Below w4.heap.size w4 wb:=Below.trans hBa (hbb.mono hBa.size)
        have hK3b:=hK3x.nx hBb
        obtain ⟨z0,z1⟩:=hK3b.cell2
        go_simp
        refine hK.out _ _ (keepP x0 x1 h0 h1 hlg lb lbi hBb) (fun hHeld=>?_)
        clear hK K
        refine wpAnyH_ready (rs:=[12]) (by kernel_rfl) (by simp) ?_
        refine AllReadyH.cons rfl (fun K hK=>?_) AllReadyH.nil
        go_simp
        refine (add_any _ _ M (W*Z) _ (hN3x.nx hBb) hNb sM sP).mono ?_
        rintro e wd ⟨vd,rfl,hNd,hbd⟩
        obtain ⟨sd,Ad,nd,cd,rfl⟩:=hNd.shape
        have hBd:Below w4.heap.size w4 wd:=Below.trans hBb (hbd.mono hBb.size)
        have hK3d:=hK3x.nx hBd
        obtain ⟨k0,k1⟩:=hK3d.cell2
        have f0:=hK3d.frozen 0
        have f1:=hK3d.frozen 1
        go_simp
        refine hK.out _ _ (keepP x0 x1 h0 h1 hlg lb lbi hBd) (fun hHeld=>?_)
        clear hK K
        refine wpAnyH_ready (rs:=[13]) (by kernel_rfl) (by simp) ?_
        refine AllReadyH.cons rfl (fun K hK=>?_) AllReadyH.nil
        go_simp
        refine hK.out _ _ (keepPs (keepP x0 x1 h0 h1 hlg lb lbi hBd) hne hneb hnei _ _) (fun hHeld=>?_)
        clear hK K
        refine wpAnyH_done (by kernel_rfl) ?_ _
        go_wp2_with fail
        have hMs:mixS cs rs Ls k (i+1)=M+W*Z:=HMX.out
        have hzb:=hBd.size
        have hza:=hBb.size
        have hzo:=hbx.size
        refine ⟨⟨i+1,sd,Ad,nd,cd,by omega,by go_num,hK3d.set2 _ _,?_,hNd.off (fun k hk=>.inl (by injection hk with hk;rw [← hk];have:=hK3x.lt;omega)),?_⟩,by simp [intOf];omega⟩
        ·rw [hMs]
         exact (hNd.grown (gb2 wd _ _ _) (.inl (by have:=hK3x.lt;omega))).less (by omega)
        ·exact below_of_gb (hbx.trans (hBd.mono hzo)) (gb2 wd _ _ _) (by omega) (by omega)
       ·go_simp
        refine (mul_any _ _ W Z _ (hNx.nx hBa) hNa sW sZ).mono ?_
        rintro e wb ⟨vb',rfl,hNb,hbb⟩
        obtain ⟨sb',Ab',nb',cb',rfl⟩:=hNb.shape
        have hBb:Below w4.heap.size w4 wb:=Below.trans hBa (hbb.mono hBa.size)
        have hK3b:=hK3x.nx hBb
        obtain ⟨z0,z1⟩:=hK3b.cell2
        go_simp
        refine hK.out _ _ (keepP x0 x1 h0 h1 hlg lb lbi hBb) (fun hHeld=>?_)
        clear hK K
        refine wpAnyH_ready (rs:=[0]) (by kernel_rfl) (by simp) ?_
        refine AllReadyH.cons rfl (fun K hK=>?_) AllReadyH.nil
        go_simp
        refine hK.out _ _ (by exact hHeld) (fun hHeld=>?_)
        clear hK K
        refine wpAnyH_ready (rs:=[12]) (by kernel_rfl) (by simp) ?_
        refine AllReadyH.cons rfl (fun K hK=>?_) AllReadyH.nil
        go_simp
        refine (add_any _ _ M (W*Z) _ (hN3x.nx hBb) hNb sM sP).mono ?_
        rintro e wd ⟨vd,rfl,hNd,hbd⟩
        obtain ⟨sd,Ad,nd,cd,rfl⟩:=hNd.shape
        have hBd:Below w4.heap.size w4 wd:=Below.trans hBb (hbd.mono hBb.size)
        have hK3d:=hK3x.nx hBd
        obtain ⟨k0,k1⟩:=hK3d.cell2
        have f0:=hK3d.frozen 0
        have f1:=hK3d.frozen 1
        go_simp
        refine hK.out _ _ (keepP x0 x1 h0 h1 hlg lb lbi hBd) (fun hHeld=>?_)
        clear hK K
        refine wpAnyH_ready (rs:=[13]) (by kernel_rfl) (by simp) ?_
        refine AllReadyH.cons rfl (fun K hK=>?_) AllReadyH.nil
        go_simp
        refine hK.out _ _ (keepPs (keepP x0 x1 h0 h1 hlg lb lbi hBd) hne hneb hnei _ _) (fun hHeld=>?_)
        clear hK K
        refine wpAnyH_done (by kernel_rfl) ?_ _
        go_wp2_with fail
        have hMs:mixS cs rs Ls k (i+1)=M+W*Z:=HMX.out
        have hzb:=hBd.size
        have hza:=hBb.size
        have hzo:=hbx.size
        refine ⟨⟨i+1,sd,Ad,nd,cd,by omega,by go_num,hK3d.set2 _ _,?_,hNd.off (fun k hk=>.inl (by injection hk with hk;rw [← hk];have:=hK3x.lt;omega)),?_⟩,by simp [intOf];omega⟩
        ·rw [hMs]
         exact (hNd.grown (gb2 wd _ _ _) (.inl (by have:=hK3x.lt;omega))).less (by omega)
        ·exact below_of_gb (hbx.trans (hBd.mono hzo)) (gb2 wd _ _ _) (by omega) (by omega)
    ·obtain rfl:i=n:=by omega
     have hbw:=hLi.bel.trans (hbi.mono hLi.sz)
     have hbt:byteZ (mixS cs rs Ls k i) sc=bt k:=by rw [HBT.out]
     have hmi:=HS.out k i
     have hi16:(i:Int)*287104476244869120≤16*287104476244869120:=Int.mul_le_mul_of_nonneg_right (by omega) (by omega)
     have hJ:=near_62 (a:=mixS cs rs Ls k i) (b:=sc) (by unfold J62;omega) (by omega)
     have hBy:=fun (w':World) (h3:BigN wq.heap.size w' (.agg #[.bool s3,.slice A3 m3 c3]) (mixS cs rs Ls k i)) (h4:BigN lo w' (.agg #[.bool sb,.slice Ab nb cb]) sc)=>bbyte_any _ _ _ sc w' h3 h4 hs0 (by omega) (by omega) hs1 (by unfold J64 at hJ;omega) (by unfold J64 at hJ;omega)
     rw [hbt] at hBy
     have hK9:Bk wi w.heap.size 166 #[.bool sb,.slice Ab nb cb]:=(hLi.nx hbi).k 0 (by simp)
     have hN9:=hsb.nx hbw
     have hown2:=own_below hown hbi (Nat.le_refl _)
     have hszi:=hbi.size
     have HT:=Lib.hid (show ((List.range (k+1)).map bt).map (Value.int .u8)=((List.range k).map bt).map (Value.int .u8)++[.int .u8 (bt k)] by rw [List.range_succ];simp)
     clear hbt hmi hi16 hJ
     generalize bt k=Bt at *
     go_wp2_with (first
      | (refine ldBig rfl _ rfl hK3 rfl ?_)
      | (refine ldBig rfl _ rfl hK9 rfl ?_)
      | (go_at_call 263;(with_reducible refine (hBy _ hN3 hN9).mono ?_);rintro e w6 ⟨rfl,hb6⟩;have hown3:=own_below hown2 hb6 (Nat.le_refl _);have hb7:=hbw.trans (hb6.mono (Nat.le_trans hLi.sz hszi));have hz6:=hb6.size)
      | (at_builtin;refine app1 rfl _ _ _ rfl Tryz.underlying22 u8_info rfl (by omega) rfl rfl hown3 hb7 (by omega) (by omega) rfl ints1 (by omega) (by omega) ?_;intro v' w' hown' hbel' hlt' hgr _))
     have hge:=own_ge hown3
     refine ⟨⟨k+1,by omega,by go_num,?_,⟨hbel',fun x hx=>?_⟩,by omega⟩,by simp [intOf];omega⟩
     ·rw [HT.out];exact hown'
     ·simp only [List.mem_cons,List.not_mem_nil,or_false] at hx
      subst hx
      exact (hK9.nx hb6).grown hgr (fun e=>by have:=hge _ e.symm;omega)
  ·obtain rfl:k=C:=by omega
   go_wp2_with fail
   go_returns
   refine ⟨_,rfl,own_base hown (by omega),hLi.bel⟩
end Go.Proofs.YtjbelhpgbcnlmaaGreat
end
end
