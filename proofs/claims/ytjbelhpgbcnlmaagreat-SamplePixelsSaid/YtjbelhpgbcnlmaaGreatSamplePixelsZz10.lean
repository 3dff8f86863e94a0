/- Several texts in one: Several texts in one: Sums and differences of 64 bits; wide numbers: what they are, sums, differences, signs. Wide numbers: differences, sizes, products. Wide numbers: times a number; as numbers of 64 bits. Wide numbers as numbers of 64 bits. Wide numbers, shifted by 16. How many bits a number has. One digit of a long quotient, by a guess that is mended: plain arithmetic. A quotient of 128 bits by 64. Quotients of wide numbers: sizes, digits. Quotients of wide numbers, rounded down; as places. A quotient as a place. -/
import Derived.Test.YtjbelhpgbcnlmaaGreatSamplePixelsZz1
import Derived.Laws.Externs
import Derived.Shelf.Spec.BitsCarry
import Derived.Lib.Mul64
import Derived.Laws.Bits64b
import Derived.Deep.RegionHeld3
import Derived.Deep.DeepCutAuto
import Derived.RegionTactic
import Derived.Deep.RegionWith
import Derived.Deep.QuietTactic
import Derived.BigQuiet
import Derived.Lib.BitFns
import Derived.Deep.CutBlock
section
section
set_option linter.unusedVariables false
namespace Go.Proofs.YtjbelhpgbcnlmaaGreat
open Go.RowKit
theorem run_add (x y c:Int) (hx:0≤x) (hy:0≤y) (hc0:0≤c) (hc:c≤1) (w:World) :
 (callFunc 324 #[.int .u64 x,.int .u64 y,.int .u64 c]).run Tryz.prog w=.ok (.value (.tuple #[.int .u64 ((x+y+c)%18446744073709551616),.int .u64 ((x+y+c)/18446744073709551616)])) w:=by
 rw [run_callFunc_extern Tryz.func324 (by kernel_rfl) (by kernel_rfl) (by kernel_rfl) (e:=add64Entry) (by kernel_rfl),run_add64 x y c hx hy hc0 hc]
 rfl
theorem run_subN (x y c:Nat) (hc:c≤1) (w:World) :
 (callFunc 340 #[.int .u64 x,.int .u64 y,.int .u64 c]).run Tryz.prog w=.ok (.value (.tuple #[.int .u64 (((x+18446744073709551616-y-c)%18446744073709551616:Nat):Int),.int .u64 ((if x<y+c then 1 else 0:Nat):Int)])) w:=by
 rw [run_callFunc_extern Tryz.func340 (by kernel_rfl) (by kernel_rfl) (by kernel_rfl) (e:=sub64Entry) (by kernel_rfl),run_sub64 x y c hc]
 rfl
theorem run_add' {x y c s d:Int} (hx:0≤x) (hy:0≤y) (hc0:0≤c) (hc:c≤1) (hs:(x+y+c)%18446744073709551616=s) (hd:(x+y+c)/18446744073709551616=d) (w:World) :
 (callFunc 324 #[.int .u64 x,.int .u64 y,.int .u64 c]).run Tryz.prog w=.ok (.value (.tuple #[.int .u64 s,.int .u64 d])) w:=by
 rw [run_add x y c hx hy hc0 hc w,hs,hd]
theorem run_sub' {x y c s d:Int} (hx:0≤x) (hy:0≤y) (hx2:x<18446744073709551616) (hy2:y<18446744073709551616) (hc0:0≤c) (hc:c≤1) (hs:(x-y-c)%18446744073709551616=s) (hd:(if x<y+c then 1 else 0:Int)=d) (w:World) :
 (callFunc 340 #[.int .u64 x,.int .u64 y,.int .u64 c]).run Tryz.prog w=.ok (.value (.tuple #[.int .u64 s,.int .u64 d])) w:=by
 obtain ⟨x,rfl⟩:=Int.eq_ofNat_of_zero_le hx
 obtain ⟨y,rfl⟩:=Int.eq_ofNat_of_zero_le hy
 obtain ⟨c,rfl⟩:=Int.eq_ofNat_of_zero_le hc0
 have e1:(((x+18446744073709551616-y-c)%18446744073709551616:Nat):Int)=s:=by omega
 have e2:((if x<y+c then 1 else 0:Nat):Int)=d:=by rw [← hd];split <;> split <;> omega
 rw [run_subN x y c (by omega) w,e1,e2]
def hi6 (z:Int):Int:=z/18446744073709551616
def lo6 (z:Int):Int:=z%18446744073709551616
abbrev WV (z:Int):Value:=.agg #[.int .i64 (hi6 z),.int .u64 (lo6 z)]
def Wd (z:Int):Prop:=-170141183460469231731687303715884105728≤z∧z<170141183460469231731687303715884105728
def J64 (z:Int):Prop:=-9223372036854775808≤z∧z<9223372036854775808
structure WH (z:Int):Prop where
 l0:0≤lo6 z
 s:hi6 z<0 ↔ z<0
theorem wh (z:Int):WH z:=⟨by unfold lo6;omega,by unfold hi6;omega⟩
theorem hi_bd {z:Int} (h:Wd z):J64 (hi6 z):=by unfold Wd at h;unfold J64 hi6;omega
theorem hi0:hi6 0=0:=by decide
theorem lo0:lo6 0=0:=by decide
theorem uw (x:Int):IntKind.u64.wrap x=x%18446744073709551616:=by rw [IntKind.wrap_u64]
theorem w64 (x:Int):wrap64 x=(x+9223372036854775808)%18446744073709551616-9223372036854775808:=by unfold wrap64;rfl
set_option maxHeartbeats 1000000 in
theorem wof_any (x:Int) (w:World) (hx:J64 x):Calls Tryz.prog 298 #[.int .i64 x] w fun e w'=>e=.returned (WV x)∧Below w.heap.size w w':=by
 have e1:IntKind.u64.wrap x=lo6 x:=by rw [uw];rfl
 have e2:x/9223372036854775808=hi6 x:=by unfold hi6;unfold J64 at hx;omega
 have e3:x >>> 63=hi6 x:=by rw [Int.shiftRight_eq_div_pow];exact e2
 clear hx
 go_enter Tryz.func298,Tryz.ntmps298
 go_wp2
 go_returns
 exact ⟨rfl,by go_grown⟩
def sgn (z:Int):Int:=if z<0 then -1 else if z=0 then 0 else 1
set_option maxHeartbeats 1000000 in
theorem wsign_any (z:Int) (w:World):Calls Tryz.prog 287 #[WV z] w fun e w'=>e=.returned (.int .i64 (sgn z))∧Below w.heap.size w w':=by
 rcases Int.lt_trichotomy z 0 with h|rfl|h
 ·have HS:=Lib.hid (show sgn z=-1 by unfold sgn;rw [if_pos h])
  have h1:=(wh z).s.2 h
  clear h
  go_enter Tryz.func287,Tryz.ntmps287
  go_wp2
  go_returns
  exact ⟨ret_int HS.out.symm,by go_grown⟩
 ·have h1:=hi0
  have h2:=lo0
  go_enter Tryz.func287,Tryz.ntmps287
  go_wp2
  go_returns
  exact ⟨ret_int (by rfl),by go_grown⟩
 ·have HS:=Lib.hid (show sgn z=1 by unfold sgn;rw [if_neg (by omega),if_neg (by omega)])
  have h1:¬hi6 z<0:=fun k=>by have:=(wh z).s.1 k;omega
  by_cases h2:0<hi6 z
  ·clear h
   go_enter Tryz.func287,Tryz.ntmps287
   go_wp2
   go_returns
   exact ⟨ret_int HS.out.symm,by go_grown⟩
  ·have h3:0<lo6 z:=by unfold hi6 lo6 at *;omega
   clear h
   go_enter Tryz.func287,Tryz.ntmps287
   go_wp2
   go_returns
   exact ⟨ret_int HS.out.symm,by go_grown⟩
theorem add_facts {a b:Int} (ha:Wd a) (hb:Wd b) (hs:Wd (a+b)):∃ ua ub c uh d:Int,IntKind.u64.wrap (hi6 a)=ua∧IntKind.u64.wrap (hi6 b)=ub ∧
 (∀ w,(callFunc 324 #[.int .u64 (lo6 a),.int .u64 (lo6 b),.int .u64 0]).run Tryz.prog w=.ok (.value (.tuple #[.int .u64 (lo6 (a+b)),.int .u64 c])) w) ∧
 (∀ w,(callFunc 324 #[.int .u64 ua,.int .u64 ub,.int .u64 c]).run Tryz.prog w=.ok (.value (.tuple #[.int .u64 uh,.int .u64 d])) w)∧wrap64 uh=hi6 (a+b):=by
 unfold Wd at ha hb hs
 refine ⟨_,_,(lo6 a+lo6 b)/18446744073709551616,(hi6 a%18446744073709551616+hi6 b%18446744073709551616+(lo6 a+lo6 b)/18446744073709551616)%18446744073709551616,(hi6 a%18446744073709551616+hi6 b%18446744073709551616+(lo6 a+lo6 b)/18446744073709551616)/18446744073709551616,uw _,uw _,fun w=>run_add' (by unfold lo6;omega) (by unfold lo6;omega) (by omega) (by omega) (by unfold lo6;omega) (by rw [Int.add_zero]) w,fun w=>run_add' (by omega) (by omega) (by unfold lo6;omega) (by unfold lo6;omega) rfl rfl w,?_⟩
 rw [w64];unfold lo6 hi6;omega
set_option maxRecDepth 100000 in
set_option maxHeartbeats 4000000 in
theorem wadd_any (a b:Int) (w:World) (ha:Wd a) (hb:Wd b) (hs:Wd (a+b)) :
 Calls Tryz.prog 282 #[WV a,WV b] w fun e w'=>e=.returned (.tuple #[WV (a+b),.bool true])∧Below w.heap.size w w':=by
 obtain ⟨ua,ub,c,uh,d,e1,e2,e3,e4,e5⟩:=add_facts ha hb hs
 have ka:=(wh a).s
 have kb:=(wh b).s
 have ks:=(wh (a+b)).s
 have hor:(hi6 a<0∧0≤hi6 b)∨(0≤hi6 a∧hi6 b<0)∨(hi6 a<0∧hi6 b<0∧hi6 (a+b)<0)∨(0≤hi6 a∧0≤hi6 b∧0≤hi6 (a+b)):=by omega
 clear ka kb ks ha hb hs
 rcases hor with ⟨h1,h2⟩|⟨h1,h2⟩|⟨h1,h2,h3⟩|⟨h1,h2,h3⟩
 all_goals
  first | have d1:decide (hi6 a<0)=true:=decide_eq_true h1|have d1:decide (hi6 a<0)=false:=decide_eq_false (by omega)
  first | have d2:decide (hi6 b<0)=true:=decide_eq_true h2|have d2:decide (hi6 b<0)=false:=decide_eq_false (by omega)
  first | have d3:decide (hi6 (a+b)<0)=true:=decide_eq_true h3|have d3:decide (hi6 (a+b)<0)=false:=decide_eq_false (by omega)|have d3:True:=trivial
  go_enter Tryz.func282,Tryz.ntmps282
  go_wp2
  go_returns
  exact ⟨rfl,by go_grown⟩
end Go.Proofs.YtjbelhpgbcnlmaaGreat
end
section
set_option linter.unusedVariables false
namespace Go.Proofs.YtjbelhpgbcnlmaaGreat
open Go.RowKit
theorem sub_facts {a b:Int} (ha:Wd a) (hb:Wd b) (hs:Wd (a-b)):∃ ua ub c uh d:Int,IntKind.u64.wrap (hi6 a)=ua∧IntKind.u64.wrap (hi6 b)=ub ∧
 (∀ w,(callFunc 340 #[.int .u64 (lo6 a),.int .u64 (lo6 b),.int .u64 0]).run Tryz.prog w=.ok (.value (.tuple #[.int .u64 (lo6 (a-b)),.int .u64 c])) w) ∧
 (∀ w,(callFunc 340 #[.int .u64 ua,.int .u64 ub,.int .u64 c]).run Tryz.prog w=.ok (.value (.tuple #[.int .u64 uh,.int .u64 d])) w)∧wrap64 uh=hi6 (a-b):=by
 unfold Wd at ha hb hs
 refine ⟨_,_,if lo6 a<lo6 b then 1 else 0,(hi6 a%18446744073709551616-hi6 b%18446744073709551616-(if lo6 a<lo6 b then 1 else 0))%18446744073709551616,_,uw _,uw _,fun w=>run_sub' (by unfold lo6;omega) (by unfold lo6;omega) (by unfold lo6;omega) (by unfold lo6;omega) (by omega) (by omega) (by unfold lo6;omega) (by rw [Int.add_zero]) w,fun w=>run_sub' (by omega) (by omega) (by omega) (by omega) (by split <;> omega) (by split <;> omega) rfl rfl w,?_⟩
 rw [w64];unfold lo6 hi6;split <;> omega
set_option maxRecDepth 100000 in
set_option maxHeartbeats 4000000 in
theorem wsub_any (a b:Int) (w:World) (ha:Wd a) (hb:Wd b) (hs:Wd (a-b)) :
 Calls Tryz.prog 348 #[WV a,WV b] w fun e w'=>e=.returned (.tuple #[WV (a-b),.bool true])∧Below w.heap.size w w':=by
 obtain ⟨ua,ub,c,uh,d,e1,e2,e3,e4,e5⟩:=sub_facts ha hb hs
 have ka:=(wh a).s
 have kb:=(wh b).s
 have ks:=(wh (a-b)).s
 have hor:(hi6 a<0∧hi6 b<0)∨(0≤hi6 a∧0≤hi6 b)∨(hi6 a<0∧0≤hi6 b∧hi6 (a-b)<0)∨(0≤hi6 a∧hi6 b<0∧0≤hi6 (a-b)):=by omega
 clear ka kb ks ha hb hs
 rcases hor with ⟨h1,h2⟩|⟨h1,h2⟩|⟨h1,h2,h3⟩|⟨h1,h2,h3⟩
 all_goals
  first | have d1:decide (hi6 a<0)=true:=decide_eq_true h1|have d1:decide (hi6 a<0)=false:=decide_eq_false (by omega)
  first | have d2:decide (hi6 b<0)=true:=decide_eq_true h2|have d2:decide (hi6 b<0)=false:=decide_eq_false (by omega)
  first | have d3:decide (hi6 (a-b)<0)=true:=decide_eq_true h3|have d3:decide (hi6 (a-b)<0)=false:=decide_eq_false (by omega)|have d3:True:=trivial
  go_enter Tryz.func348,Tryz.ntmps348
  go_wp2
  go_returns
  exact ⟨rfl,by go_grown⟩
def ab (x:Int):Int:=if x<0 then -x else x
theorem wabs_any (x:Int) (w:World) (hx:J64 x):Calls Tryz.prog 326 #[.int .i64 x] w fun e w'=>e=.returned (.tuple #[.int .u64 (ab x),.bool (decide (x<0))])∧w=w':=by
 by_cases h:x<0
 ·have hd:=decide_eq_true h
  obtain ⟨u,hu⟩:∃ u,IntKind.u64.wrap x=u:=⟨_,rfl⟩
  have e2:IntKind.u64.wrap (-u)=ab x:=by rw [← hu,uw,uw];unfold ab;rw [if_pos h];unfold J64 at hx;omega
  clear hx
  go_enter Tryz.func326,Tryz.ntmps326
  go_wp2
  go_returns
  exact ⟨by first | rfl|(rw [hd];rfl),rfl⟩
 ·have hd:=decide_eq_false h
  have e2:IntKind.u64.wrap x=ab x:=by rw [uw];unfold ab;rw [if_neg h];unfold J64 at hx;omega
  clear hx
  go_enter Tryz.func326,Tryz.ntmps326
  go_wp2
  go_returns
  exact ⟨by first | rfl|(rw [hd];rfl),rfl⟩
abbrev SV (z:Int):Value:=.agg #[.int .u64 (hi6 z),.int .u64 (lo6 z)]
theorem wplus_any (z:Int) (w:World) (h0:0≤z) (h1:Wd z):Calls Tryz.prog 342 #[SV z] w fun e w'=>e=.returned (.tuple #[WV z,.bool true])∧Below w.heap.size w w':=by
 unfold Wd at h1
 have e1:¬9223372036854775807<hi6 z:=by unfold hi6;omega
 have e2:wrap64 (hi6 z)=hi6 z:=by rw [w64];unfold hi6;omega
 clear h0 h1
 go_enter Tryz.func342,Tryz.ntmps342
 go_wp2
 go_returns
 exact ⟨rfl,by go_grown⟩
theorem minus_facts {z:Int} (h0:0≤z) (h1:Wd z):∃ c uh d:Int,
 (∀ w,(callFunc 340 #[.int .u64 0,.int .u64 (lo6 z),.int .u64 0]).run Tryz.prog w=.ok (.value (.tuple #[.int .u64 (lo6 (-z)),.int .u64 c])) w) ∧
 (∀ w,(callFunc 340 #[.int .u64 0,.int .u64 (hi6 z),.int .u64 c]).run Tryz.prog w=.ok (.value (.tuple #[.int .u64 uh,.int .u64 d])) w)∧wrap64 uh=hi6 (-z):=by
 unfold Wd at h1
 refine ⟨if 0<lo6 z then 1 else 0,(0-hi6 z-(if 0<lo6 z then 1 else 0))%18446744073709551616,_,fun w=>run_sub' (by omega) (by unfold lo6;omega) (by omega) (by unfold lo6;omega) (by omega) (by omega) (by unfold lo6;omega) (by rw [Int.add_zero]) w,fun w=>run_sub' (by omega) (by unfold hi6;omega) (by omega) (by unfold hi6;omega) (by split <;> omega) (by split <;> omega) rfl rfl w,?_⟩
 rw [w64];unfold lo6 hi6;split <;> omega
theorem wminus_any (z:Int) (w:World) (h0:0≤z) (h1:Wd z):Calls Tryz.prog 343 #[SV z] w fun e w'=>e=.returned (.tuple #[WV (-z),.bool true])∧Below w.heap.size w w':=by
 obtain ⟨c,uh,d,e3,e4,e5⟩:=minus_facts h0 h1
 unfold Wd at h1
 have e1:¬9223372036854775808<hi6 z:=by unfold hi6;omega
 have e2:(hi6 z==9223372036854775808)=false:=beq_eq_false_iff_ne.2 (by unfold hi6;omega)
 clear h0 h1
 go_enter Tryz.func343,Tryz.ntmps343
 go_wp2
 go_returns
 exact ⟨rfl,by go_grown⟩
theorem wd_size:(Tryz.prog.info? 289).map (·.size)=some 2:=by kernel_rfl
theorem sz_size:(Tryz.prog.info? 418).map (·.size)=some 2:=by kernel_rfl
abbrev wdA (z:Int):Array Value:=#[.int .i64 (hi6 z),.int .u64 (lo6 z)]
abbrev szA (z:Int):Array Value:=#[.int .u64 (hi6 z),.int .u64 (lo6 z)]
theorem stWd {ops:Array Oper} {rest:List Oper} {o:Oper} {a:Act} {w:World} {Q:Exit→Act→World→Prop} (hgd:o.guard=none) (x y:Operand) (ho:o.op=.store 289 x y)
 {g:Nat} {old:Array Value} (hK:Bk w g 289 old) (hold:old.size=2) {z:Int} (hx:a.eval x=.pointer (some ⟨g,0,none⟩)) (hy:a.eval y=WV z)
 (h:∀ w',Bk w' g 289 (wdA z)→w.grownBy w' (some g)→w'.heap.size=w.heap.size→wpList Tryz.prog ops Q rest (a.put o.dst undef) w'):wpList Tryz.prog ops Q (o::rest) a w :=
 stB hgd _ x y ho hK _ hx hy wd_size (by simpa using hold) (by simp [Value.oneCell']) h
theorem ldWd {ops:Array Oper} {rest:List Oper} {o:Oper} {a:Act} {w:World} {Q:Exit→Act→World→Prop} (hgd:o.guard=none) (x:Operand) (ho:o.op=.load 289 x)
 {g:Nat} {z:Int} (hK:Bk w g 289 (wdA z)) (hx:a.eval x=.pointer (some ⟨g,0,none⟩))
 (h:wpList Tryz.prog ops Q rest (a.put o.dst (WV z)) w):wpList Tryz.prog ops Q (o::rest) a w :=
 ldB hgd _ x ho hK hx Tryz.underlying289 rfl wd_size h
theorem res_wd_tmp {fn:Func} {p q:Tmp} (h:fn.results=#[.cell p 289,.tmp q]) {tmps:Array Value} {w:World} {g:Nat} {z:Int} (hK:Bk w g 289 (wdA z))
 (hp:tmps.getD p undef=.pointer (some ⟨g,0,none⟩)):(results fn tmps).run Tryz.prog w=.ok (.tuple #[WV z,tmps.getD q undef]) w :=
 res_cell_tmp h hK hp Tryz.underlying289 rfl wd_size
theorem res_wd {fn:Func} {p:Tmp} (h:fn.results=#[.cell p 289]) {tmps:Array Value} {w:World} {g:Nat} {z:Int} (hK:Bk w g 289 (wdA z))
 (hp:tmps.getD p undef=.pointer (some ⟨g,0,none⟩)):(results fn tmps).run Tryz.prog w=.ok (WV z) w :=
 res_cell h hK hp Tryz.underlying289 rfl wd_size
theorem wd0:wdA 0=#[.int .i64 0,.int .u64 0]:=by rw [show wdA 0=#[.int .i64 (hi6 0),.int .u64 (lo6 0)] from rfl,hi0,lo0]
set_option maxHeartbeats 1000000 in
theorem wsigned_any (z:Int) (neg:Bool) (w:World) (h0:0≤z) (h1:Wd z):Calls Tryz.prog 328 #[SV z,.bool neg] w fun e w'=>e=.returned (.tuple #[WV (if neg=true then -z else z),.bool true])∧Below w.heap.size w w':=by
 have hL:=((Lie.start w).alloc (szA z) 418).alloc #[.int .i64 0,.int .u64 0] 289
 simp only [World.size_alloc] at hL
 cases neg
 ·go_enter Tryz.func328,Tryz.ntmps328
  go_wp2_with (first
   | (go_at_call 342;(with_reducible refine (wplus_any z _ h0 h1).mono ?_);rintro e w1 ⟨rfl,hb1⟩;have hL1:=hL.nx hb1;have k1:Bk w1 (w.heap.size+1) 289 #[.int .i64 0,.int .u64 0]:=hL1.k 0 (by simp))
   | (refine stWd rfl _ _ rfl k1 rfl rfl rfl ?_;intro w2 k2 hg2 hs2))
  refine bodyPost_ret (res_wd_tmp rfl k2 rfl) rfl ?_
  exact ⟨rfl,below_of_gb hL1.bel hg2 (by omega) hL1.sz⟩
 ·go_enter Tryz.func328,Tryz.ntmps328
  go_wp2_with (first
   | (go_at_call 343;(with_reducible refine (wminus_any z _ h0 h1).mono ?_);rintro e w1 ⟨rfl,hb1⟩;have hL1:=hL.nx hb1;have k1:Bk w1 (w.heap.size+1) 289 #[.int .i64 0,.int .u64 0]:=hL1.k 0 (by simp))
   | (refine stWd rfl _ _ rfl k1 rfl rfl rfl ?_;intro w2 k2 hg2 hs2))
  refine bodyPost_ret (res_wd_tmp rfl k2 rfl) rfl ?_
  exact ⟨rfl,below_of_gb hL1.bel hg2 (by omega) hL1.sz⟩
namespace Mul64
theorem maskN (a:Nat) (ha:a<18446744073709551616):bits .and .u64 (a:Int) 4294967295=((a%4294967296:Nat):Int):=by
 have h:=bits_and_u64_nat a 4294967295 ha (by omega)
 have e:a &&& 4294967295=a%4294967296:=Nat.and_two_pow_sub_one_eq_mod a 32
 rw [e] at h
 exact h
theorem divN (a:Nat):(a:Int)/4294967296=((a/4294967296:Nat):Int):=by omega
theorem mulN (a b:Nat):(a:Int)*(b:Int)=((a*b:Nat):Int):=(Int.natCast_mul a b).symm
theorem addN (a b:Nat):(a:Int)+(b:Int)=((a+b:Nat):Int):=(Int.natCast_add a b).symm
theorem wrapN (a:Nat) (ha:a<18446744073709551616):IntKind.u64.wrap (a:Int)=(a:Int):=by rw [IntKind.wrap_u64];omega
theorem wrapM (a:Nat):IntKind.u64.wrap (a:Int)=((a%18446744073709551616:Nat):Int):=by rw [IntKind.wrap_u64];omega
end Mul64
set_option maxHeartbeats 1000000 in
theorem mul64_any (x y:Nat) (hx:x<18446744073709551616) (hy:y<18446744073709551616) (w:World) :
 Calls Tryz.prog 327 #[.int .u64 x,.int .u64 y] w fun e w'=>e=.returned (.tuple #[.int .u64 ((x*y/18446744073709551616:Nat):Int),.int .u64 ((x*y%18446744073709551616:Nat):Int)])∧w=w':=by
 obtain ⟨bd,bt,bw,hhi⟩:=Lib.mul64_hi x y hx hy
 have ba:=Lib.half_mul_le (a:=x/4294967296) (b:=y/4294967296) (by omega) (by omega)
 have bb:=Lib.half_mul_le (a:=x/4294967296) (b:=y%4294967296) (by omega) (by omega)
 have bc:=Lib.half_mul_le (a:=x%4294967296) (b:=y/4294967296) (by omega) (by omega)
 have ba':x/4294967296*(y/4294967296)<18446744073709551616:=by omega
 have bb':x/4294967296*(y%4294967296)<18446744073709551616:=by omega
 have bc':x%4294967296*(y/4294967296)<18446744073709551616:=by omega
 have bh1:x/4294967296*(y/4294967296)+(x/4294967296*(y%4294967296)+x%4294967296*(y%4294967296)/4294967296)/4294967296<18446744073709551616:=by omega
 have bh:x/4294967296*(y/4294967296)+(x/4294967296*(y%4294967296)+x%4294967296*(y%4294967296)/4294967296)/4294967296+((x/4294967296*(y%4294967296)+x%4294967296*(y%4294967296)/4294967296)%4294967296+x%4294967296*(y/4294967296))/4294967296<18446744073709551616:=by omega
 go_enter Tryz.func327,Tryz.ntmps327
 go_wp2
 simp only [Mul64.maskN x hx,Mul64.maskN y hy,Mul64.divN,Mul64.mulN,Mul64.addN,Mul64.wrapN _ bd,Mul64.wrapN _ bb',Mul64.wrapN _ bt,Mul64.maskN _ bt,Mul64.wrapN _ bc',Mul64.wrapN _ bw,Mul64.wrapN _ ba',Mul64.wrapN _ bh1,Mul64.wrapN _ bh,Mul64.wrapM (x*y)]
 rw [hhi]
 go_ret2
 exact ⟨rfl,rfl⟩
theorem mul64_i {x y:Int} (hx:0≤x) (hy:0≤y) (hx2:x<18446744073709551616) (hy2:y<18446744073709551616) (w:World) :
 Calls Tryz.prog 327 #[.int .u64 x,.int .u64 y] w fun e w'=>e=.returned (.tuple #[.int .u64 (hi6 (x*y)),.int .u64 (lo6 (x*y))])∧w=w':=by
 obtain ⟨x,rfl⟩:=Int.eq_ofNat_of_zero_le hx
 obtain ⟨y,rfl⟩:=Int.eq_ofNat_of_zero_le hy
 refine (mul64_any x y (by omega) (by omega) w).mono fun e w' ⟨h1,h2⟩=>⟨?_,h2⟩
 rw [h1]
 have e1:((x*y/18446744073709551616:Nat):Int)=hi6 ((x:Int)*y):=by unfold hi6;rw [← Int.natCast_mul];omega
 have e2:((x*y%18446744073709551616:Nat):Int)=lo6 ((x:Int)*y):=by unfold lo6;rw [← Int.natCast_mul];omega
 rw [e1,e2]
theorem ab_bd {x:Int} (h:J64 x):0≤ab x∧ab x≤9223372036854775808:=by unfold ab;unfold J64 at h;split <;> omega
theorem ab_mul (a b:Int):(if (!(decide (a<0)==decide (b<0)))=true then -(ab a*ab b) else ab a*ab b)=a*b:=by
 unfold ab
 by_cases h1:a<0 <;> by_cases h2:b<0 <;> simp [h1,h2,Int.neg_mul,Int.mul_neg]
theorem prod_le {x y:Int} (hx:0≤x) (hx2:x≤9223372036854775808) (hy:0≤y) (hy2:y≤9223372036854775808):0≤x*y∧x*y≤85070591730234615865843651857942052864:=by
 constructor
 ·exact Int.mul_nonneg hx hy
 ·have:=Int.mul_le_mul hx2 hy2 hy (by omega:(0:Int)≤9223372036854775808)
  omega
set_option maxRecDepth 100000 in
set_option maxHeartbeats 4000000 in
theorem wmul_any (a b:Int) (w:World) (ha:J64 a) (hb:J64 b) :
 Calls Tryz.prog 281 #[.int .i64 a,.int .i64 b] w fun e w'=>e=.returned (WV (a*b))∧Below w.heap.size w w':=by
 have hA:=fun w'=>wabs_any a w' ha
 have hB:=fun w'=>wabs_any b w' hb
 obtain ⟨x0,x1⟩:=ab_bd ha
 obtain ⟨y0,y1⟩:=ab_bd hb
 have hM:=fun w'=>mul64_i x0 y0 (by omega) (by omega) w'
 obtain ⟨p0,p1⟩:=prod_le x0 x1 y0 y1
 have hS:=fun w'=>(wsigned_any (ab a*ab b) (!(decide (a<0)==decide (b<0))) w' p0 ⟨by omega,by omega⟩).mono (R':=fun e w''=>e=.returned (.tuple #[WV (a*b),.bool true])∧Below w'.heap.size w' w'') fun e w'' ⟨h1,h2⟩=>⟨by rw [h1,ab_mul],h2⟩
 have hL:=(Lie.start w).alloc #[.int .i64 0,.int .u64 0] 289
 clear ha hb x0 x1 y0 y1 p0 p1
 generalize decide (a<0)=da at *
 generalize decide (b<0)=db at *
 generalize ab a=xa at *
 generalize ab b=xb at *
 generalize xa*xb=pp at *
 generalize hr:a*b=r at *
 clear hr
 go_enter Tryz.func281,Tryz.ntmps281
 go_wp2_with fail
 refine (hA _).mono ?_
 rintro e w1 ⟨rfl,rfl⟩
 go_wp2_with fail
 refine (hB _).mono ?_
 rintro e w1 ⟨rfl,rfl⟩
 go_wp2_with fail
 refine (hM _).mono ?_
 rintro e w1 ⟨rfl,rfl⟩
 go_wp2_with (first
  | (go_at_call 328;(with_reducible refine (hS _).mono ?_);rintro e w1 ⟨rfl,hb1⟩;have hL1:=(hL.nx hb1).alloc (wdA r) 289;have k1:Bk _ w.heap.size 289 #[.int .i64 0,.int .u64 0]:=hL1.k 1 (by simp))
  | (refine stWd rfl _ _ rfl k1 rfl rfl rfl ?_;intro w2 k2 hg2 hs2))
 refine bodyPost_ret (res_wd rfl k2 rfl) rfl ?_
 exact ⟨rfl,below_of_gb hL1.bel hg2 (by omega) hL1.sz⟩
theorem apart_facts {a:Int} (ha:Wd a) (hn:a<0):∃ ua c:Int,IntKind.u64.wrap (hi6 a)=ua ∧
 (∀ w,(callFunc 340 #[.int .u64 0,.int .u64 (lo6 a),.int .u64 0]).run Tryz.prog w=.ok (.value (.tuple #[.int .u64 (lo6 (ab a)),.int .u64 c])) w) ∧
 (∃ d,∀ w,(callFunc 340 #[.int .u64 0,.int .u64 ua,.int .u64 c]).run Tryz.prog w=.ok (.value (.tuple #[.int .u64 (hi6 (ab a)),.int .u64 d])) w):=by
 have e:ab a=-a:=by unfold ab;rw [if_pos hn]
 rw [e]
 unfold Wd at ha
 refine ⟨_,if 0<lo6 a then 1 else 0,uw _,fun w=>run_sub' (by omega) (by unfold lo6;omega) (by omega) (by unfold lo6;omega) (by omega) (by omega) (by unfold lo6;omega) (by rw [Int.add_zero]) w,_,fun w=>run_sub' (by omega) (by omega) (by omega) (by omega) (by split <;> omega) (by split <;> omega) (by unfold lo6 hi6;split <;> omega) rfl w⟩
set_option maxRecDepth 100000 in
set_option maxHeartbeats 4000000 in
theorem apart_any (a:Int) (w:World) (ha:Wd a):Calls Tryz.prog 345 #[WV a] w fun e w'=>e=.returned (.tuple #[SV (ab a),.bool (decide (a<0))])∧Below w.heap.size w w':=by
 by_cases hn:a<0
 ·obtain ⟨ua,c,e1,e2,d,e3⟩:=apart_facts ha hn
  have hd:=decide_eq_true hn
  have h1:=(wh a).s.2 hn
  clear ha hn
  go_enter Tryz.func345,Tryz.ntmps345
  go_wp2
  go_returns
  exact ⟨by rw [hd],by go_grown⟩
 ·have hd:=decide_eq_false hn
  have h1:0≤hi6 a:=by unfold hi6;omega
  have e1:IntKind.u64.wrap (hi6 a)=hi6 (ab a):=by rw [uw];unfold ab;rw [if_neg hn];unfold hi6;unfold Wd at ha;omega
  have e2:lo6 a=lo6 (ab a):=by unfold ab;rw [if_neg hn]
  have E2:=Lib.hid e2
  clear ha hn e2
  go_enter Tryz.func345,Tryz.ntmps345
  go_wp2
  go_returns
  exact ⟨by rw [hd];show _=Ending.returned (.tuple #[.agg #[.int .u64 (hi6 (ab a)),.int .u64 (lo6 (ab a))],.bool false]);rw [← E2.out],by go_grown⟩
end Go.Proofs.YtjbelhpgbcnlmaaGreat
end
section
set_option linter.unusedVariables false
namespace Go.Proofs.YtjbelhpgbcnlmaaGreat
open Go.RowKit
theorem scale_facts {s y:Int} (hs:0≤s) (hy:0≤y) (hy2:y<18446744073709551616) (hp:Wd (s*y)) :
 hi6 (hi6 s*y)=0∧lo6 (hi6 s*y)=hi6 s*y∧lo6 (lo6 s*y)=lo6 (s*y)∧0≤hi6 s*y∧hi6 s*y<9223372036854775808∧hi6 (lo6 s*y)+hi6 s*y=hi6 (s*y)∧0≤hi6 (lo6 s*y)∧hi6 (s*y)<9223372036854775808∧0≤hi6 s∧0≤lo6 s∧lo6 s<18446744073709551616∧0≤s*y:=by
 have e:s=hi6 s*18446744073709551616+lo6 s:=by unfold hi6 lo6;omega
 have e2:s*y=hi6 s*y*18446744073709551616+lo6 s*y:=by
  rw [e,Int.add_mul,Int.mul_right_comm]
  rw [← e]
 have h1:0≤hi6 s:=by unfold hi6;omega
 have h2:0≤lo6 s:=by unfold lo6;omega
 have h2':lo6 s<18446744073709551616:=by unfold lo6;omega
 have h3:0≤hi6 s*y:=Int.mul_nonneg h1 hy
 have h4:0≤lo6 s*y:=Int.mul_nonneg h2 hy
 have h5:0≤s*y:=Int.mul_nonneg hs hy
 unfold Wd at hp
 generalize hi6 s*y=p at *
 generalize lo6 s*y=q at *
 generalize s*y=t at *
 refine ⟨?_,?_,?_,h3,?_,?_,?_,?_,h1,h2,h2',h5⟩
 all_goals (unfold hi6 lo6 at *;omega)
set_option maxRecDepth 100000 in
set_option maxHeartbeats 4000000 in
theorem wscale_any (a b:Int) (w:World) (ha:Wd a) (hb:J64 b) (hp:Wd (ab a*ab b)) :
 Calls Tryz.prog 330 #[WV a,.int .i64 b] w fun e w'=>e=.returned (.tuple #[WV (a*b),.bool true])∧Below w.heap.size w w':=by
 have hA:=fun w'=>apart_any a w' ha
 have hB:=fun w'=>wabs_any b w' hb
 obtain ⟨y0,y1⟩:=ab_bd hb
 have s0:0≤ab a:=by unfold ab;split <;> omega
 obtain ⟨f1,f2,f3,f4,f5,f6,f7,f8,f9,f10,f11,f12⟩:=scale_facts s0 y0 (by omega) hp
 have hM1:=fun w'=>mul64_i f9 y0 (by unfold Wd at ha;unfold ab hi6;split <;> omega) (by omega) w'
 have hM2:=fun w'=>mul64_i f10 y0 f11 (by omega) w'
 rw [f1,f2] at hM1
 rw [f3] at hM2
 have e4:=fun w=>run_add' (c:=0) f7 f4 (by omega) (by omega) (s:=hi6 (ab a*ab b)) (d:=0) (by omega) (by omega) w
 have hS:=fun w'=>(wsigned_any (ab a*ab b) (!(decide (a<0)==decide (b<0))) w' f12 hp).mono (R':=fun e w''=>e=.returned (.tuple #[WV (a*b),.bool true])∧Below w'.heap.size w' w'') fun e w'' ⟨h1,h2⟩=>⟨by rw [h1,ab_mul],h2⟩
 have hL:=((Lie.start w).alloc (wdA a) 289).alloc #[.int .i64 0,.int .u64 0] 289
 simp only [World.size_alloc] at hL
 clear ha hb hp y0 y1 f1 f2 f3 f4 f5 f6 f7 f8 f9 f10 f11 f12 s0
 generalize decide (a<0)=da at *
 generalize decide (b<0)=db at *
 generalize ab a*ab b=pp at *
 generalize hi6 (ab a)*ab b=mid at *
 generalize hi6 (lo6 (ab a)*ab b)=hh at *
 generalize ab b=xb at *
 generalize hr:a*b=r at *
 clear hr
 go_enter Tryz.func330,Tryz.ntmps330
 go_wp2_with fail
 refine (hA _).mono ?_
 rintro e w1 ⟨rfl,hb1⟩
 replace hL:=(hL.nx hb1).alloc (szA (ab a)) 418
 go_wp2_with fail
 refine (hB _).mono ?_
 rintro e w2 ⟨rfl,rfl⟩
 go_wp2_with fail
 refine (hM1 _).mono ?_
 rintro e w2 ⟨rfl,rfl⟩
 go_wp2_with fail
 refine (hM2 _).mono ?_
 rintro e w2 ⟨rfl,rfl⟩
 go_wp2_with (first
  | (go_at_call 328;(with_reducible refine (hS _).mono ?_);rintro e w3 ⟨rfl,hb3⟩;have hL1:=hL.nx hb3;have k1:Bk _ (w.heap.size+1) 289 #[.int .i64 0,.int .u64 0]:=hL1.k 1 (by simp))
  | (refine stWd rfl _ _ rfl k1 rfl rfl rfl ?_;intro w4 k2 hg2 hs2))
 refine bodyPost_ret (res_wd_tmp rfl k2 rfl) rfl ?_
 exact ⟨rfl,below_of_gb hL1.bel hg2 (by omega) hL1.sz⟩
end Go.Proofs.YtjbelhpgbcnlmaaGreat
end
section
set_option linter.unusedVariables false
namespace Go.Proofs.YtjbelhpgbcnlmaaGreat
open Go.RowKit
theorem wd2_keep {w w':World} {B g:Nat} {x y:Value} (h:w.cell? ⟨g,0,none⟩=some x∧w.cell? ⟨g,1,none⟩=some y) (hg:g<B) (hb:Below B w w'):w'.cell? ⟨g,0,none⟩=some x∧w'.cell? ⟨g,1,none⟩=some y∧Below B w w' :=
 ⟨(hb.cell (by exact hg)).trans h.1,(hb.cell (by exact hg)).trans h.2,hb⟩
theorem fits_facts (z:Int):∃ x,wrap64 (lo6 z)=x∧J64 x∧(J64 z→x=z)∧(¬J64 z→hi6 x≠hi6 z):=by
 refine ⟨_,rfl,?_,?_,?_⟩ <;> rw [w64] <;> unfold J64 lo6 <;> (try unfold hi6) <;> omega
set_option maxRecDepth 100000 in
set_option maxHeartbeats 4000000 in
theorem fits64_yes (z:Int) (w:World) (hz:J64 z):Calls Tryz.prog 299 #[WV z] w fun e w'=>e=.returned (.tuple #[.int .i64 z,.bool true])∧Below w.heap.size w w':=by
 obtain ⟨x,e1,hx,hx1,hx2⟩:=fits_facts z
 obtain rfl:=hx1 hz
 have hO:=fun w'=>wof_any x w' hx
 have hK:=Bk.new w 289 (wdA x)
 have hbz:=(Below.refl w.heap.size w).alloc (Nat.le_refl _) (.cells (wdA x) 289)
 clear hx hx1 hz hx2
 go_enter Tryz.func299,Tryz.ntmps299
 go_upto_region 2 with fail
 generalize w.alloc (.cells (wdA x) 289)=w1 at *
 have hc:=hK.cell2
 have hlt:=hK.lt
 obtain ⟨c0,c1⟩:=hc
 go_region_held3 (fun w'=>w'.cell? ⟨w.heap.size,0,none⟩=some (.int .i64 (hi6 x))∧w'.cell? ⟨w.heap.size,1,none⟩=some (.int .u64 (lo6 x))∧Below w1.heap.size w1 w')
  (first | with_reducible exact wd2_keep ⟨c0,c1⟩ hlt hbl|(refine wd2_keep ⟨c0,c1⟩ hlt ?_;go_grown))
  (first | (go_at_call 298;(with_reducible refine (hO _).mono ?_);rintro e wl ⟨rfl,hbl'⟩;have hbl:Below w1.heap.size w1 wl:=by first | exact hbl'|exact Below.trans (by go_grown) hbl'))
 all_goals
  rename_i hHeld
  have hbx:=hHeld.2.2
  clear hHeld
  go_wp2_with fail
  go_returns
  exact ⟨rfl,hbz.trans (hbx.mono hbz.size)⟩
set_option maxRecDepth 100000 in
set_option maxHeartbeats 4000000 in
theorem fits64_no (z:Int) (w:World) (hz:¬J64 z):Calls Tryz.prog 299 #[WV z] w fun e w'=>e=.returned (.tuple #[.int .i64 0,.bool false])∧Below w.heap.size w w':=by
 obtain ⟨x,e1,hx,hx1,hx2⟩:=fits_facts z
 have hne:¬hi6 x=hi6 z:=hx2 hz
 have hO:=fun w'=>wof_any x w' hx
 have hK:=Bk.new w 289 (wdA z)
 have hbz:=(Below.refl w.heap.size w).alloc (Nat.le_refl _) (.cells (wdA z) 289)
 clear hx hx1 hz hx2
 go_enter Tryz.func299,Tryz.ntmps299
 go_upto_region 2 with fail
 generalize w.alloc (.cells (wdA z) 289)=w1 at *
 have hc:=hK.cell2
 have hlt:=hK.lt
 obtain ⟨c0,c1⟩:=hc
 go_region_held3 (fun w'=>w'.cell? ⟨w.heap.size,0,none⟩=some (.int .i64 (hi6 z))∧w'.cell? ⟨w.heap.size,1,none⟩=some (.int .u64 (lo6 z))∧Below w1.heap.size w1 w')
  (first | with_reducible exact wd2_keep ⟨c0,c1⟩ hlt hbl|(refine wd2_keep ⟨c0,c1⟩ hlt ?_;go_grown))
  (first | (go_at_call 298;(with_reducible refine (hO _).mono ?_);rintro e wl ⟨rfl,hbl'⟩;have hbl:Below w1.heap.size w1 wl:=by first | exact hbl'|exact Below.trans (by go_grown) hbl'))
 all_goals
  rename_i hHeld
  have hbx:=hHeld.2.2
  clear hHeld
  go_wp2_with fail
  go_returns
  exact ⟨rfl,hbz.trans (hbx.mono hbz.size)⟩
end Go.Proofs.YtjbelhpgbcnlmaaGreat
end
section
set_option linter.unusedVariables false
namespace Go.Proofs.YtjbelhpgbcnlmaaGreat
open Go.RowKit
theorem or_add {k b i X:Int} (n:Nat) (hi:i=2^n) (hX:X=i*k) (hk:0≤k) (hb:0≤b) (hb2:b<i) (hX2:X<18446744073709551616) (hb3:b<18446744073709551616):bits .or .u64 X b=X+b:=by
 obtain ⟨k,rfl⟩:=Int.eq_ofNat_of_zero_le hk
 obtain ⟨b,rfl⟩:=Int.eq_ofNat_of_zero_le hb
 have e:X=((2^n*k:Nat):Int):=by rw [hX,hi];simp
 subst e
 have hb4:b<2^n:=by rw [hi] at hb2;exact_mod_cast hb2
 rw [bits_or_u64_nat _ _ (by omega) (by omega),← Nat.two_pow_add_eq_or_of_lt hb4]
 omega
theorem or_comm64 {a b:Int} (ha:0≤a) (hb:0≤b) (ha2:a<18446744073709551616) (hb2:b<18446744073709551616):bits .or .u64 a b=bits .or .u64 b a:=by
 obtain ⟨a,rfl⟩:=Int.eq_ofNat_of_zero_le ha
 obtain ⟨b,rfl⟩:=Int.eq_ofNat_of_zero_le hb
 rw [bits_or_u64_nat _ _ (by omega) (by omega),bits_or_u64_nat _ _ (by omega) (by omega),Nat.or_comm]
theorem shl_facts {z:Int} (h:Wd (z*65536)):wrap64 (bits BinOp.or IntKind.u64 (IntKind.u64.wrap (IntKind.u64.wrap (hi6 z)*65536)) (lo6 z/281474976710656))=hi6 (z*65536)∧IntKind.u64.wrap (lo6 z*65536)=lo6 (z*65536):=by
 rw [uw,uw,uw]
 have e:hi6 z%18446744073709551616*65536%18446744073709551616=65536*(hi6 z%281474976710656):=by omega
 rw [e,or_add 16 (i:=65536) (by decide) rfl (by omega) (by unfold lo6;omega) (by unfold lo6;omega) (by omega) (by unfold lo6;omega),w64]
 unfold Wd at h
 unfold hi6 lo6
 omega
theorem shr_facts (z:Int):hi6 z/65536=hi6 (z/65536)∧bits BinOp.or IntKind.u64 (lo6 z/65536) (IntKind.u64.wrap (IntKind.u64.wrap (hi6 z)*281474976710656))=lo6 (z/65536):=by
 rw [uw,uw]
 have e:hi6 z%18446744073709551616*281474976710656%18446744073709551616=281474976710656*(hi6 z%65536):=by omega
 rw [e,or_comm64 (by unfold lo6;omega) (by omega) (by unfold lo6;omega) (by omega),or_add 48 (i:=281474976710656) (by decide) rfl (by omega) (by unfold lo6;omega) (by unfold lo6;omega) (by omega) (by unfold lo6;omega)]
 unfold hi6 lo6
 omega
theorem shl_any (z:Int) (w:World) (h:Wd (z*65536)):Calls Tryz.prog 320 #[WV z,.int .i64 16] w fun e w'=>e=.returned (WV (z*65536))∧Below w.heap.size w w':=by
 obtain ⟨e1,e2⟩:=shl_facts h
 clear h
 go_enter Tryz.func320,Tryz.ntmps320
 go_wp2
 go_returns
 exact ⟨rfl,by go_grown⟩
theorem shr_any (z:Int) (w:World):Calls Tryz.prog 321 #[WV z,.int .i64 16] w fun e w'=>e=.returned (WV (z/65536))∧Below w.heap.size w w':=by
 obtain ⟨e1,e2⟩:=shr_facts z
 go_enter Tryz.func321,Tryz.ntmps321
 go_wp2
 go_returns
 exact ⟨rfl,by go_grown⟩
set_option maxRecDepth 100000 in
set_option maxHeartbeats 4000000 in
theorem shl16_any (z:Int) (w:World) (h:Wd (z*65536)):Calls Tryz.prog 277 #[WV z,.int .i64 16] w fun e w'=>e=.returned (.tuple #[WV (z*65536),.bool true])∧Below w.heap.size w w':=by
 have hL:=((Lie.start w).alloc (wdA z) 289).alloc #[.int .i64 0,.int .u64 0] 289
 simp only [World.size_alloc] at hL
 by_cases hz:z=0
 ·have hS:=fun w'=>(wsign_any z w').mono (R':=fun e w''=>e=.returned (.int .i64 0)∧Below w'.heap.size w' w'') fun e w'' ⟨h1,h2⟩=>⟨by rw [h1,hz];rfl,h2⟩
  have HZ:Hid (WV z=WV (z*65536)):=by show _=_;rw [hz];rfl
  clear hz h
  go_enter Tryz.func277,Tryz.ntmps277
  go_wp2_with (first
   | (go_at_call 287;(with_reducible refine (hS _).mono ?_);rintro e w1 ⟨rfl,hb1⟩;have hL1:=hL.nx hb1;have k0:Bk _ w.heap.size 289 (wdA z):=hL1.k 1 (by simp);have k1:Bk _ (w.heap.size+1) 289 #[.int .i64 0,.int .u64 0]:=hL1.k 0 (by simp);obtain ⟨c0,c1⟩:=k0.cell2)
   | (refine stWd rfl _ _ rfl k1 rfl rfl rfl ?_;intro w4 k2 hg2 hs2))
  refine bodyPost_ret (res_wd_tmp rfl k2 rfl) rfl ?_
  exact ⟨by rw [HZ.out.symm];rfl,below_of_gb hL1.bel hg2 (by omega) hL1.sz⟩
 ·have hs0:(sgn z==0)=false:=by unfold sgn;split <;> (try split) <;> simp_all
  have hSg:=fun w'=>wsign_any z w'
  have hSl:=fun w'=>shl_any z w' h
  have hSr:=fun w'=>(shr_any (z*65536) w').mono (R':=fun e w''=>e=.returned (WV z)∧Below w'.heap.size w' w'') fun e w'' ⟨h1,h2⟩=>⟨by rw [h1,Int.mul_ediv_cancel _ (by decide)],h2⟩
  clear hz h
  generalize hr:z*65536=r at *
  clear hr
  go_enter Tryz.func277,Tryz.ntmps277
  go_wp2_with fail
  refine (hSg _).mono ?_
  rintro e w1 ⟨rfl,hb1⟩
  replace hL:=hL.nx hb1
  have k0:Bk _ w.heap.size 289 (wdA z):=hL.k 1 (by simp)
  obtain ⟨c0,c1⟩:=k0.cell2
  go_wp2_with fail
  refine (hSl _).mono ?_
  rintro e w2 ⟨rfl,hb2⟩
  replace hL:=(hL.nx hb2).alloc (wdA r) 289
  clear c0 c1 k0 hSg hSl
  have k0:Bk _ w.heap.size 289 (wdA z):=hL.k 2 (by simp)
  have k3:Bk _ w2.heap.size 289 (wdA r):=hL.k 0 (by simp)
  go_upto_region 8 with fail
  generalize w2.alloc (.cells (wdA r) 289)=w3 at *
  obtain ⟨c0,c1⟩:=k0.cell2
  obtain ⟨d0,d1⟩:=k3.cell2
  have l0:=k0.lt
  have l3:=k3.lt
  go_region_held3 (fun w'=>(w'.cell? ⟨w.heap.size,0,none⟩=some (.int .i64 (hi6 z))∧w'.cell? ⟨w.heap.size,1,none⟩=some (.int .u64 (lo6 z))∧Below w3.heap.size w3 w')∧w'.cell? ⟨w2.heap.size,0,none⟩=some (.int .i64 (hi6 r))∧w'.cell? ⟨w2.heap.size,1,none⟩=some (.int .u64 (lo6 r))∧Below w3.heap.size w3 w')
   (first | with_reducible exact ⟨wd2_keep ⟨c0,c1⟩ l0 hbl,wd2_keep ⟨d0,d1⟩ l3 hbl⟩|(refine ⟨wd2_keep ⟨c0,c1⟩ l0 ?_,wd2_keep ⟨d0,d1⟩ l3 ?_⟩ <;> go_grown))
   (first | (go_at_call 321;(with_reducible refine (hSr _).mono ?_);rintro e wl ⟨rfl,hbl'⟩;have hbl:Below w3.heap.size w3 wl:=by first | exact hbl'|exact Below.trans (by go_grown) hbl'))
  all_goals
   rename_i hHeld
   have hbx:=hHeld.2.2.2
   clear hHeld c0 c1 d0 d1
   have hLx:=hL.nx hbx
   have k1:Bk _ (w.heap.size+1) 289 #[.int .i64 0,.int .u64 0]:=hLx.k 1 (by simp)
   have k3':Bk _ w2.heap.size 289 (wdA r):=hLx.k 0 (by simp)
   obtain ⟨d0,d1⟩:=k3'.cell2
   go_wp2_with (refine stWd rfl _ _ rfl k1 rfl rfl rfl ?_;intro w4 k2 hg2 hs2)
   refine bodyPost_ret (res_wd_tmp rfl k2 rfl) rfl ?_
   exact ⟨rfl,below_of_gb hLx.bel hg2 (by omega) hLx.sz⟩
end Go.Proofs.YtjbelhpgbcnlmaaGreat
end
section
set_option linter.unusedVariables false
namespace Go.Proofs.YtjbelhpgbcnlmaaGreat
open Go.RowKit
theorem len8_at (k:Int) (hk:0≤k∧k≤56) (i:Int) (h0:0≤i) (h1:i<256) (h:i.toNat<Lib.len8tab.size):wrap64 (k+wrap64 ((Lib.len8tab[i.toNat]'h).toNat:Int))=k+(Lib.bitLen i.toNat:Int):=by
 have e:=Lib.len8_of i h0 (by omega)
 have l:=Lib.bitLen_le8' i h0 (by omega)
 unfold Lib.len8 at e
 rw [getElem?_pos Lib.len8tab i.toNat h] at e
 simp only [Option.getD_some] at e
 rw [e,w64,w64]
 omega
set_option maxHeartbeats 4000000 in
set_option maxRecDepth 100000 in
theorem len64_any (x:Int) (w:World) (h0:0≤x) (h1:x≤18446744073709551615) :
 Calls Tryz.prog 350 #[.int .u64 x] w fun e w'=>e=.returned (.int .i64 (Lib.bitLen x.toNat))∧w=w':=by
 have hsz:Lib.len8tab.size=256:=Lib.len8tab_size
 go_enter Tryz.func350,Tryz.ntmps350
 go_wp2
 all_goals (go_ret;refine ⟨congrArg Ending.returned (congrArg (Value.int IntKind.i64) ?_),rfl⟩)
 all_goals first
  | (rw [len8_at _ (by omega) _ (by omega) (by omega)]
     have e:(x/4294967296/65536/256).toNat=x.toNat/72057594037927936:=by omega
     have s:=Lib.bitLen_shift56 x.toNat (by omega) (by omega)
     rw [e]
     omega)
  | (rw [len8_at _ (by omega) _ (by omega) (by omega)]
     have e:(x/4294967296/65536).toNat=x.toNat/281474976710656:=by omega
     have s:=Lib.bitLen_shift48 x.toNat (by omega) (by omega)
     rw [e]
     omega)
  | (rw [len8_at _ (by omega) _ (by omega) (by omega)]
     have e:(x/4294967296/256).toNat=x.toNat/1099511627776:=by omega
     have s:=Lib.bitLen_shift40 x.toNat (by omega) (by omega)
     rw [e]
     omega)
  | (rw [len8_at _ (by omega) _ (by omega) (by omega)]
     have e:(x/4294967296).toNat=x.toNat/4294967296:=by omega
     have s:=Lib.bitLen_shift32 x.toNat (by omega) (by omega)
     rw [e]
     omega)
  | (rw [len8_at _ (by omega) _ (by omega) (by omega)]
     have e:(x/65536/256).toNat=x.toNat/16777216:=by omega
     have s:=Lib.bitLen_shift24 x.toNat (by omega) (by omega)
     rw [e]
     omega)
  | (rw [len8_at _ (by omega) _ (by omega) (by omega)]
     have e:(x/65536).toNat=x.toNat/65536:=by omega
     have s:=Lib.bitLen_shift16 x.toNat (by omega) (by omega)
     rw [e]
     omega)
  | (rw [len8_at _ (by omega) _ (by omega) (by omega)]
     have e:(x/256).toNat=x.toNat/256:=by omega
     have s:=Lib.bitLen_shift8 x.toNat (by omega) (by omega)
     rw [e]
     omega)
  | (have e:=len8_at 0 (by omega) x h0 (by omega) (by omega)
     rw [Int.zero_add,Int.zero_add] at e
     rw [← e,w64,w64])
set_option maxRecDepth 100000 in
theorem bitLen_pow:∀ (f x:Nat),0<x→x<2^f→2^(Lib.bitLenAux f x-1)≤x∧x<2^(Lib.bitLenAux f x)∧0<Lib.bitLenAux f x∧Lib.bitLenAux f x≤f:=by
 intro f
 induction f with
 | zero=>intro x h1 h2;simp at h2;omega
 | succ f ih =>
   intro x h1 h2
   have e:Lib.bitLenAux (f+1) x=1+Lib.bitLenAux f (x/2):=by
    rw [Lib.bitLenAux];split <;> omega
   rw [e]
   by_cases h3:x/2=0
   ·have h4:x=1:=by omega
    subst h4
    rw [show (1:Nat)/2=0 from rfl]
    have:Lib.bitLenAux f 0=0:=by cases f <;> simp [Lib.bitLenAux]
    rw [this]
    simp
   ·obtain ⟨a1,a2,a3,a4⟩:=ih (x/2) (by omega) (by rw [Nat.pow_succ] at h2;omega)
    generalize Lib.bitLenAux f (x/2)=k at *
    obtain ⟨j,rfl⟩:∃ j,k=j+1:=⟨k-1,by omega⟩
    rw [show j+1-1=j by omega] at a1
    rw [show 1+(j+1)-1=j+1 by omega,show 1+(j+1)=(j+1)+1 by omega,Nat.pow_succ 2 (j+1)]
    rw [Nat.pow_succ] at a2 ⊢
    omega
set_option maxRecDepth 100000 in
theorem lz_any (y:Int) (w:World) (h0:0<y) (h1:y<18446744073709551616):∃ s:Nat,s≤63∧y*2^s<18446744073709551616∧9223372036854775808≤y*2^s ∧
 ∀ w:World,Calls Tryz.prog 349 #[.int .u64 y] w fun e w'=>e=.returned (.int .i64 s)∧w=w':=by
 obtain ⟨y,rfl⟩:=Int.eq_ofNat_of_zero_le (by omega:0≤y)
 obtain ⟨a1,a2,a3,a4⟩:=bitLen_pow 64 y (by omega) (by omega)
 have e:Lib.bitLenAux 64 y=Lib.bitLen y:=rfl
 rw [e] at a1 a2 a3 a4
 refine ⟨64-Lib.bitLen y,by omega,?_,?_,fun w=>?_⟩
 ·have h:y*2^(64-Lib.bitLen y)<2^Lib.bitLen y*2^(64-Lib.bitLen y):=Nat.mul_lt_mul_of_pos_right a2 (Nat.pow_pos (by omega))
  rw [← Nat.pow_add,show Lib.bitLen y+(64-Lib.bitLen y)=64 by omega,show (2:Nat)^64=18446744073709551616 from rfl] at h
  have h':=Int.ofNat_lt.2 h
  rw [Int.natCast_mul,Int.natCast_pow] at h'
  exact h'
 ·have h:2^(Lib.bitLen y-1)*2^(64-Lib.bitLen y)≤y*2^(64-Lib.bitLen y):=Nat.mul_le_mul_right _ a1
  rw [← Nat.pow_add,show Lib.bitLen y-1+(64-Lib.bitLen y)=63 by omega,show (2:Nat)^63=9223372036854775808 from rfl] at h
  have h':=Int.ofNat_le.2 h
  rw [Int.natCast_mul,Int.natCast_pow] at h'
  exact h'
 ·have hb:(Lib.bitLen ((y:Nat):Int).toNat:Int)=(Lib.bitLen y:Int):=by simp
  have hL:=fun w'=>(len64_any (y:Int) w' (by omega) (by omega)).mono (R':=fun e w''=>e=.returned (.int .i64 (Lib.bitLen y))∧w'=w'') fun e w'' ⟨h1,h2⟩=>⟨by rw [h1,hb],h2⟩
  have e2:(((64-Lib.bitLen y:Nat)):Int)=64-(Lib.bitLen y:Int):=by omega
  rw [e2]
  clear hb a1 a2 a3 e e2
  go_enter Tryz.func349,Tryz.ntmps349
  go_wp2_with (go_at_call 350;(with_reducible refine (hL _).mono ?_);rintro e w1 ⟨rfl,rfl⟩)
  go_ret
  exact ⟨rfl,rfl⟩
end Go.Proofs.YtjbelhpgbcnlmaaGreat
end
section
set_option linter.unusedVariables false
namespace Go.Proofs.YtjbelhpgbcnlmaaGreat
structure Dg (D d1 d0 U l:Int):Prop where
 e:D=d1*4294967296+d0
 a1:2147483648≤d1
 a2:d1<4294967296
 b1:0≤d0
 b2:d0<4294967296
 u1:0≤U
 u2:U<D
 l1:0≤l
 l2:l<4294967296
def dgq (D U l:Int):Int:=(U*4294967296+l)/D
structure Gs (D d1 U l q r:Int):Prop where
 lo:dgq D U l≤q
 hi:q≤4294967297
 re:r=U-q*d1
 r0:0≤r
 r1:r<4294967296
section
variable {D d1 d0 U l q r:Int}
theorem Dg.pos (h:Dg D d1 d0 U l):0<D:=by have:=h.e;have:=h.a1;have:=h.b1;omega
theorem Dg.lt (h:Dg D d1 d0 U l):dgq D U l<4294967296:=by
 unfold dgq
 have h0:=h.pos;have h1:=h.u2;have h2:=h.l2
 exact Int.ediv_lt_of_lt_mul h0 (by omega)
theorem Dg.ge (h:Dg D d1 d0 U l):0≤dgq D U l:=by
 unfold dgq
 have h0:=h.pos;have h1:=h.u1;have h2:=h.l1
 exact Int.ediv_nonneg (by omega) (by omega)
theorem Gs.start (h:Dg D d1 d0 U l):Gs D d1 U l (U/d1) (U-U/d1*d1):=by
 have h0:=h.pos
 have hd:0<d1:=by have:=h.a1;omega
 have hm:=Int.emod_add_mul_ediv U d1
 have hm2:=Int.emod_nonneg U (by omega:d1≠0)
 have hm3:=Int.emod_lt_of_pos U hd
 have ec:d1*(U/d1)=U/d1*d1:=Int.mul_comm _ _
 refine ⟨?_,?_,rfl,by omega,by have:=h.a2;omega⟩
 ·apply Int.le_ediv_of_mul_le hd
  have k1:dgq D U l*D≤U*4294967296+l:=Int.ediv_mul_le _ (by omega)
  have k2:dgq D U l*D=dgq D U l*d1*4294967296+dgq D U l*d0:=by rw [h.e,Int.mul_add,Int.mul_assoc]
  have k3:0≤dgq D U l*d0:=Int.mul_nonneg h.ge h.b1
  have:=h.l2
  generalize dgq D U l*d1=p at *
  generalize dgq D U l*d0=p' at *
  omega
 ·have k1:U<d1*4294967298:=by have:=h.e;have:=h.u2;have:=h.b2;have:=h.a1;omega
  have k2:U/d1<4294967298:=Int.ediv_lt_of_lt_mul hd (by rw [Int.mul_comm];exact k1)
  omega
theorem Gs.step (h:Dg D d1 d0 U l) (g:Gs D d1 U l q r) (hc:4294967296≤q∨4294967296*r+l<q*d0):dgq D U l≤q-1:=by
 rcases hc with hc|hc
 ·have:=h.lt;omega
 ·have k:dgq D U l<q:=by
   unfold dgq
   apply Int.ediv_lt_of_lt_mul h.pos
   have k2:q*D=q*d1*4294967296+q*d0:=by rw [h.e,Int.mul_add,Int.mul_assoc]
   have:=g.re
   rw [k2]
   generalize q*d1=p at *
   generalize q*d0=p' at *
   omega
  omega
theorem Gs.next (h:Dg D d1 d0 U l) (g:Gs D d1 U l q r) (hc:4294967296≤q∨4294967296*r+l<q*d0) (hr:r+d1<4294967296):Gs D d1 U l (q-1) (r+d1):=by
 have h1:=g.step h hc
 have h2:=g.hi;have h3:=g.re;have h4:=g.r0;have h5:=h.a1
 refine ⟨h1,by omega,?_,by omega,hr⟩
 rw [Int.sub_mul];omega
theorem Gs.far (h:Dg D d1 d0 U l) (g:Gs D d1 U l q r) (hc:4294967296≤q∨4294967296*r+l<q*d0) (hr:4294967296≤r+d1):q-1=dgq D U l:=by
 have h1:=g.step h hc
 have h0:=h.ge
 have h2:=g.hi
 have h3:r+d1=U-(q-1)*d1:=by rw [Int.sub_mul,g.re];omega
 have k:q-1≤dgq D U l:=by
  unfold dgq
  apply Int.le_ediv_of_mul_le h.pos
  have k2:(q-1)*D=(q-1)*d1*4294967296+(q-1)*d0:=by rw [h.e,Int.mul_add,Int.mul_assoc]
  have k3:(q-1)*d0≤4294967296*4294967295:=Int.mul_le_mul (by omega) (by have:=h.b2;omega) h.b1 (by omega)
  have:=h.l1
  rw [k2]
  generalize (q-1)*d1=p at *
  generalize (q-1)*d0=p' at *
  omega
 omega
theorem Gs.done (h:Dg D d1 d0 U l) (g:Gs D d1 U l q r) (hq:q<4294967296) (hc:¬4294967296*r+l<q*d0):q=dgq D U l:=by
 have h1:=g.lo
 have k:q≤dgq D U l:=by
  unfold dgq
  apply Int.le_ediv_of_mul_le h.pos
  have k2:q*D=q*d1*4294967296+q*d0:=by rw [h.e,Int.mul_add,Int.mul_assoc]
  have:=g.re
  rw [k2]
  generalize q*d1=p at *
  generalize q*d0=p' at *
  omega
 omega
theorem Gs.bd (h:Dg D d1 d0 U l) (g:Gs D d1 U l q r):0≤q:=by have:=g.lo;have:=h.ge;omega
theorem Gs.mulbd (h:Dg D d1 d0 U l) (g:Gs D d1 U l q r) (hq:q<4294967296):0≤q*d0∧q*d0<18446744073709551616:=by
 have h0:=g.bd h
 constructor
 ·exact Int.mul_nonneg h0 h.b1
 ·have:=Int.mul_le_mul (show q≤4294967295 by omega) (show d0≤4294967295 by have:=h.b2;omega) h.b1 (by omega)
  omega
def lft (D U l:Int):Int:=U*4294967296+l-dgq D U l*D
theorem Dg.left (h:Dg D d1 d0 U l):0≤lft D U l∧lft D U l<D:=by
 have h0:=h.pos
 have e:=Int.emod_add_mul_ediv (U*4294967296+l) D
 have e2:=Int.emod_nonneg (U*4294967296+l) (by omega:D≠0)
 have e3:=Int.emod_lt_of_pos (U*4294967296+l) h0
 unfold lft dgq
 rw [Int.mul_comm ((U*4294967296+l)/D) D]
 omega
end
theorem two_dgt {D d1 d0 U l1 l0 y hi lo:Int} {s:Nat} (h:Dg D d1 d0 U l1) (h2:Dg D d1 d0 (lft D U l1) l0) (hy:0<y) (hD:D=y*2^s) (hN:U*18446744073709551616+(l1*4294967296+l0)=(hi*18446744073709551616+lo)*2^s) :
 dgq D U l1*4294967296+dgq D (lft D U l1) l0=(hi*18446744073709551616+lo)/y∧lft D (lft D U l1) l0/2^s=(hi*18446744073709551616+lo)%y:=by
 have hp:(0:Int)<2^s:=Int.pow_pos (by omega)
 have e1:lft D U l1=U*4294967296+l1-dgq D U l1*D:=rfl
 have e2:lft D (lft D U l1) l0=lft D U l1*4294967296+l0-dgq D (lft D U l1) l0*D:=rfl
 obtain ⟨k1,k2⟩:=h2.left
 generalize hR:lft D (lft D U l1) l0=R at *
 generalize hX:lft D U l1=X at *
 generalize dgq D X l0=q0 at *
 generalize dgq D U l1=q1 at *
 have e3:(hi*18446744073709551616+lo)*2^s=(q1*4294967296+q0)*D+R:=by
  rw [← hN,Int.add_mul,Int.mul_right_comm,e2,e1]
  generalize q1*D=p at *
  generalize q0*D=p' at *
  omega
 generalize hi*18446744073709551616+lo=N at *
 have e4:N*2^s=((q1*4294967296+q0)*y)*2^s+R:=by rw [e3,hD,Int.mul_assoc]
 have e5:R=(N-(q1*4294967296+q0)*y)*2^s:=by rw [Int.sub_mul];omega
 generalize hr:N-(q1*4294967296+q0)*y=r at *
 have r0:0≤r:=by
  rcases Int.lt_or_le r 0 with h|h
  ·have:=Int.mul_neg_of_neg_of_pos h hp;omega
  ·exact h
 have r1:r<y:=by
  rcases Int.lt_or_le r y with h|h
  ·exact h
  ·have:=Int.mul_le_mul_of_nonneg_right h (show (0:Int)≤2^s by omega);omega
 have hN2:N=r+y*(q1*4294967296+q0):=by rw [Int.mul_comm y];omega
 constructor
 ·rw [hN2,Int.add_mul_ediv_left _ _ (by omega:y≠0),Int.ediv_eq_zero_of_lt r0 r1,Int.zero_add]
 ·rw [e5,Int.mul_ediv_cancel _ (by omega:(2:Int)^s≠0),hN2,Int.add_mul_emod_self_left,Int.emod_eq_of_lt r0 r1]
open Go.RowKit in
theorem dv_facts {hi lo y:Int} {s:Nat} (hy:0<y) (hs:s≤63) (h1:y*2^s<18446744073709551616) (h2:9223372036854775808≤y*2^s) (hh:0<hi) (hh2:hi<y) (hl:0≤lo) (hl2:lo<18446744073709551616) :
 ∃ D d1 d0 U l1 l0 L:Int,IntKind.u64.wrap (y*2^s)=D∧D/4294967296=d1∧bits BinOp.and IntKind.u64 D 4294967295=d0∧bits BinOp.or IntKind.u64 (IntKind.u64.wrap (hi*2^s)) (lo/2^(64-s))=U ∧
  IntKind.u64.wrap (lo*2^s)=L∧L/4294967296=l1∧bits BinOp.and IntKind.u64 L 4294967295=l0∧Dg D d1 d0 U l1∧0≤l0∧l0<4294967296∧D=y*2^s∧U*18446744073709551616+(l1*4294967296+l0)=(hi*18446744073709551616+lo)*2^s:=by
 have hp:(0:Int)<2^s:=Int.pow_pos (by omega)
 have hp2:(0:Int)<2^(64-s):=Int.pow_pos (by omega)
 have hpp:(2:Int)^s*2^(64-s)=18446744073709551616:=by rw [← Int.pow_add,show s+(64-s)=64 by omega];rfl
 have hh3:(hi+1)*2^s≤y*2^s:=Int.mul_le_mul_of_nonneg_right (by omega) (by omega)
 rw [Int.add_mul,Int.one_mul] at hh3
 have hh4:0<hi*2^s:=Int.mul_pos hh hp
 have ea:=Int.emod_add_mul_ediv lo (2^(64-s))
 have eb:=Int.emod_nonneg lo (by omega:(2:Int)^(64-s)≠0)
 have ec:=Int.emod_lt_of_pos lo hp2
 have ha0:0≤lo/2^(64-s):=Int.ediv_nonneg hl (by omega)
 have ha1:lo/2^(64-s)<2^s:=Int.ediv_lt_of_lt_mul hp2 (by rw [hpp];exact hl2)
 have hb0:0≤lo%2^(64-s)*2^s:=Int.mul_nonneg eb (by omega)
 have hb1:lo%2^(64-s)*2^s<18446744073709551616:=by rw [← hpp,Int.mul_comm];exact Int.mul_lt_mul_of_pos_left ec hp
 have hlo:lo*2^s=lo/2^(64-s)*18446744073709551616+lo%2^(64-s)*2^s:=by
  have e:lo=lo/2^(64-s)*2^(64-s)+lo%2^(64-s):=by rw [Int.mul_comm];omega
  calc lo*2^s=(lo/2^(64-s)*2^(64-s)+lo%2^(64-s))*2^s:=by rw [← e]
   _=lo/2^(64-s)*2^(64-s)*2^s+lo%2^(64-s)*2^s:=Int.add_mul _ _ _
   _=_:=by rw [Int.mul_assoc,Int.mul_comm (2^(64-s)) (2^s),hpp]
 have w1:IntKind.u64.wrap (y*2^s)=y*2^s:=by rw [uw];exact Int.emod_eq_of_lt (by omega) h1
 have w2:IntKind.u64.wrap (hi*2^s)=hi*2^s:=by rw [uw];exact Int.emod_eq_of_lt (by omega) (by omega)
 have w3:IntKind.u64.wrap (lo*2^s)=lo%2^(64-s)*2^s:=by rw [uw,hlo];omega
 have hU:=or_add (X:=hi*2^s) (b:=lo/2^(64-s)) (k:=hi) (i:=2^s) s rfl (Int.mul_comm _ _) (by omega) ha0 ha1 (by omega) (by omega)
 generalize hA:lo/2^(64-s)=a at *
 generalize hBm:lo%2^(64-s)*2^s=L at *
 generalize hDm:y*2^s=D at *
 generalize hHm:hi*2^s=H at *
 have msk:∀ x:Int,0≤x→x<18446744073709551616→bits BinOp.and IntKind.u64 x 4294967295=x%4294967296:=fun x k1 k2=>by
  obtain ⟨x,rfl⟩:=Int.eq_ofNat_of_zero_le k1
  rw [Mul64.maskN x (by omega)]
  omega
 refine ⟨D,_,_,H+a,_,_,L,w1,rfl,msk D (by omega) h1,by rw [w2];exact hU,w3,rfl,msk L hb0 hb1,?_,by omega,by omega,rfl,?_⟩
 ·exact ⟨by omega,by omega,by omega,by omega,by omega,by omega,by omega,by omega,by omega⟩
 ·rw [Int.add_mul (hi*18446744073709551616),Int.mul_right_comm hi,hHm,hlo]
  omega
end Go.Proofs.YtjbelhpgbcnlmaaGreat
end
section
set_option linter.unusedVariables false
namespace Go.Proofs.YtjbelhpgbcnlmaaGreat
open Go.RowKit
theorem div64_0 (lo y:Int) (w:World) (hy:0<y) (hy2:y<18446744073709551616) (hl:0≤lo) (hl2:lo<18446744073709551616) :
 Calls Tryz.prog 341 #[.int .u64 0,.int .u64 lo,.int .u64 y] w fun e w'=>e=.returned (.tuple #[.int .u64 (lo/y),.int .u64 (lo%y)])∧∃ n,w'=w.drewN n:=by
 have h0:(y==0)=false:=beq_eq_false_iff_ne.2 (by omega)
 go_enter Tryz.func341,Tryz.ntmps341
 go_wp2
 go_quiet (fail)
 go_wp2
 go_returns
 exact ⟨rfl,_,rfl⟩
theorem un_wrap {D d1 d0 U l:Int} (h:Dg D d1 d0 U l) (hD:D<18446744073709551616):IntKind.u64.wrap (IntKind.u64.wrap (IntKind.u64.wrap (U*4294967296)+l)-IntKind.u64.wrap (dgq D U l*D))=lft D U l:=by
 have k:=h.left
 rw [uw,uw,uw,uw]
 unfold lft at *
 generalize dgq D U l*D=p at *
 omega
theorem q_wrap {a b:Int} (h1:0≤a) (h2:a<4294967296) (h3:0≤b) (h4:b<4294967296):IntKind.u64.wrap (IntKind.u64.wrap (a*4294967296)+b)=a*4294967296+b:=by
 rw [uw,uw];omega
set_option maxRecDepth 100000 in
set_option maxHeartbeats 8000000 in
theorem div64_1 (hi lo y:Int) (s:Nat) (w:World) (hy:0<y) (hy2:y<18446744073709551616) (hl:0≤lo) (hl2:lo<18446744073709551616) (hh:0<hi) (hh2:hi<y) (hs:s≤63)
 (hLz:∀ w:World,Calls Tryz.prog 349 #[.int .u64 y] w fun e w'=>e=.returned (.int .i64 s)∧w=w') (hs1:y*2^s<18446744073709551616) (hs2:9223372036854775808≤y*2^s) :
 Calls Tryz.prog 341 #[.int .u64 hi,.int .u64 lo,.int .u64 y] w fun e w'=>e=.returned (.tuple #[.int .u64 ((hi*18446744073709551616+lo)/y),.int .u64 ((hi*18446744073709551616+lo)%y)])∧w=w':=by
 have h0:(y==0)=false:=beq_eq_false_iff_ne.2 (by omega)
 have h1:(hi==0)=false:=beq_eq_false_iff_ne.2 (by omega)
 obtain ⟨D,d1,d0,U,l1,l0,L,e1,e2,e3,e4,e5,e6,e7,dg',hl0,hl0',eD,eN⟩:=dv_facts hy hs hs1 hs2 hh hh2 hl hl2
 have dg:=Lib.hid dg'
 have hUM:=Gs.start dg'
 have HG:=Lib.hid hUM
 obtain ⟨_,_,_,gs4,gs5⟩:=hUM
 obtain ⟨dg1,dg2,dg3,dg4,dg5,dg6,dg7,dg8,dg9⟩:=dg'
 clear dg1
 have hd1:(d1==0)=false:=beq_eq_false_iff_ne.2 (by omega)
 have ED:=Lib.hid eD
 have EN:=Lib.hid eN
 have hu0:0≤U/d1:=Int.ediv_nonneg dg6 (by omega)
 have hu1:U/d1*d1≤U:=Int.ediv_mul_le _ (by omega)
 have hu2:0≤U/d1*d1:=Int.mul_nonneg hu0 (by omega)
 have f1:IntKind.u64.wrap (U/d1*d1)=U/d1*d1:=by rw [uw];omega
 have f2:IntKind.u64.wrap (U-U/d1*d1)=U-U/d1*d1:=by rw [uw];omega
 have hDM:D<18446744073709551616:=by omega
 clear hu0 hu1 hu2 eD eN gs4 gs5
 have hX1:=un_wrap dg.out hDM
 obtain ⟨hX2,hX3⟩:=dg.out.left
 have dgx':Dg D d1 d0 (lft D U l1) l0:=⟨dg.out.e,dg2,dg3,dg4,dg5,hX2,hX3,hl0,hl0'⟩
 have hT:=two_dgt dg.out dgx' hy ED.out EN.out
 have hR1:=un_wrap dgx' hDM
 have hR2:=q_wrap dg.out.ge dg.out.lt dgx'.ge dgx'.lt
 generalize hX:lft D U l1=X at *
 have dgx:=Lib.hid dgx'
 have HG2:=Lib.hid (Gs.start dgx')
 obtain ⟨_,_,_,gs4,gs5⟩:=Gs.start dgx'
 have hu0:0≤X/d1:=Int.ediv_nonneg hX2 (by omega)
 have hu1:X/d1*d1≤X:=Int.ediv_mul_le _ (by omega)
 have hu2:0≤X/d1*d1:=Int.mul_nonneg hu0 (by omega)
 have g1:IntKind.u64.wrap (X/d1*d1)=X/d1*d1:=by rw [uw];omega
 have g2:IntKind.u64.wrap (X-X/d1*d1)=X-X/d1*d1:=by rw [uw];omega
 have hT1:=Lib.hid hT.1
 have hT2:=Lib.hid hT.2
 clear hu0 hu1 hu2 gs4 gs5 dgx' hT hX
 go_enter Tryz.func341,Tryz.ntmps341
 go_wp2_with fail
 refine (hLz _).mono ?_
 rintro e w1 ⟨rfl,rfl⟩
 go_upto_block 0 with fail
 go_cut [15,16] (fun qv rv wx=>qv=.int .u64 (dgq D U l1)∧w=wx)
 case first =>
  go_wp2_with fail
  go_loop [15,16] (fun qv rv=>∃ a b:Int,qv=.int .u64 a∧rv=.int .u64 b∧Hid (Gs D d1 U l1 a b)) (fun qv _=>(intOf qv).toNat)
  case atStart=>exact ⟨_,_,rfl,rfl,HG⟩
  case round =>
   obtain ⟨a,b,rfl,rfl,g⟩:=hrel
   have ga:=g.out.bd dg.out
   have gh:=g.out.hi
   have gb0:=g.out.r0
   have gb1:=g.out.r1
   have w1:IntKind.u64.wrap (b+d1)=b+d1:=by rw [uw];omega
   have w3:IntKind.u64.wrap (4294967296*b)=4294967296*b:=by rw [uw];omega
   have w4:IntKind.u64.wrap (4294967296*b+l1)=4294967296*b+l1:=by rw [uw];omega
   by_cases hq:4294967296≤a
   ·have w2:IntKind.u64.wrap (a-1)=a-1:=by rw [uw];omega
    by_cases hr:4294967296≤b+d1
    ·have hf:=Lib.hid (g.out.far dg.out (.inl hq) hr)
     go_wp2_with fail
     go_meet
     exact ⟨by rw [hf.out],rfl⟩
    ·have hn:=Lib.hid (g.out.next dg.out (.inl hq) (by omega))
     go_wp2_with fail
     exact ⟨⟨_,_,rfl,rfl,hn⟩,by simp [intOf];omega⟩
   ·have hm:=g.out.mulbd dg.out (by omega)
    obtain ⟨p,hp⟩:∃ p,a*d0=p:=⟨_,rfl⟩
    rw [hp] at hm
    obtain ⟨hm0,hm1⟩:=hm
    have w5:IntKind.u64.wrap p=p:=by rw [uw];omega
    by_cases hc:4294967296*b+l1<p
    ·have hc2:=Lib.hid (show 4294967296*b+l1<a*d0 by rw [hp];exact hc)
     have ga1:1≤a:=by
      have h1:=g.out.step dg.out (.inr hc2.out)
      have h2:=dg.out.ge
      omega
     have w2:IntKind.u64.wrap (a-1)=a-1:=by rw [uw];omega
     by_cases hr:4294967296≤b+d1
     ·have hf:=Lib.hid (g.out.far dg.out (.inr hc2.out) hr)
      go_wp2_with fail
      go_meet
      exact ⟨by rw [hf.out],rfl⟩
     ·have hn:=Lib.hid (g.out.next dg.out (.inr hc2.out) (by omega))
      go_wp2_with fail
      exact ⟨⟨_,_,rfl,rfl,hn⟩,by simp [intOf];omega⟩
    ·have hf:=Lib.hid (g.out.done dg.out (by omega) (by rw [hp];exact hc))
     go_wp2_with fail
     go_meet
     exact ⟨by rw [← hf.out],rfl⟩
 case rest =>
  obtain ⟨rfl,rfl⟩:=hcut
  go_upto_block 2 with fail
  go_cut [18,16] (fun qv rv wx=>qv=.int .u64 (dgq D X l0)∧w=wx)
  case first =>
   go_wp2_with fail
   go_loop [18,16] (fun qv rv=>∃ a b:Int,qv=.int .u64 a∧rv=.int .u64 b∧Hid (Gs D d1 X l0 a b)) (fun qv _=>(intOf qv).toNat)
   case atStart=>exact ⟨_,_,rfl,rfl,HG2⟩
   case round =>
    obtain ⟨a,b,rfl,rfl,g⟩:=hrel
    have ga:=g.out.bd dgx.out
    have gh:=g.out.hi
    have gb0:=g.out.r0
    have gb1:=g.out.r1
    have w1:IntKind.u64.wrap (b+d1)=b+d1:=by rw [uw];omega
    have w3:IntKind.u64.wrap (4294967296*b)=4294967296*b:=by rw [uw];omega
    have w4:IntKind.u64.wrap (4294967296*b+l0)=4294967296*b+l0:=by rw [uw];omega
    by_cases hq:4294967296≤a
    ·have w2:IntKind.u64.wrap (a-1)=a-1:=by rw [uw];omega
     by_cases hr:4294967296≤b+d1
     ·have hf:=Lib.hid (g.out.far dgx.out (.inl hq) hr)
      go_wp2_with fail
      go_meet
      exact ⟨by rw [hf.out],rfl⟩
     ·have hn:=Lib.hid (g.out.next dgx.out (.inl hq) (by omega))
      go_wp2_with fail
      exact ⟨⟨_,_,rfl,rfl,hn⟩,by simp [intOf];omega⟩
    ·have hm:=g.out.mulbd dgx.out (by omega)
     obtain ⟨p,hp⟩:∃ p,a*d0=p:=⟨_,rfl⟩
     rw [hp] at hm
     obtain ⟨hm0,hm1⟩:=hm
     have w5:IntKind.u64.wrap p=p:=by rw [uw];omega
     by_cases hc:4294967296*b+l0<p
     ·have hc2:=Lib.hid (show 4294967296*b+l0<a*d0 by rw [hp];exact hc)
      have ga1:1≤a:=by
       have h1:=g.out.step dgx.out (.inr hc2.out)
       have h2:=dgx.out.ge
       omega
      have w2:IntKind.u64.wrap (a-1)=a-1:=by rw [uw];omega
      by_cases hr:4294967296≤b+d1
      ·have hf:=Lib.hid (g.out.far dgx.out (.inr hc2.out) hr)
       go_wp2_with fail
       go_meet
       exact ⟨by rw [hf.out],rfl⟩
      ·have hn:=Lib.hid (g.out.next dgx.out (.inr hc2.out) (by omega))
       go_wp2_with fail
       exact ⟨⟨_,_,rfl,rfl,hn⟩,by simp [intOf];omega⟩
     ·have hf:=Lib.hid (g.out.done dgx.out (by omega) (by rw [hp];exact hc))
      go_wp2_with fail
      go_meet
      exact ⟨by rw [← hf.out],rfl⟩
  case rest =>
   obtain ⟨rfl,rfl⟩:=hcut
   go_wp2_with fail
   go_returns
   exact ⟨ret_t2 hT1.out hT2.out,rfl⟩
end Go.Proofs.YtjbelhpgbcnlmaaGreat
end
section
set_option linter.unusedVariables false
namespace Go.Proofs.YtjbelhpgbcnlmaaGreat
open Go.RowKit
theorem div64_any (hi lo y:Int) (w:World) (hy:0<y) (hy2:y<18446744073709551616) (hl:0≤lo) (hl2:lo<18446744073709551616) (hh:0≤hi) (hh2:hi<y) :
 Calls Tryz.prog 341 #[.int .u64 hi,.int .u64 lo,.int .u64 y] w fun e w'=>e=.returned (.tuple #[.int .u64 ((hi*18446744073709551616+lo)/y),.int .u64 ((hi*18446744073709551616+lo)%y)])∧Below w.heap.size w w':=by
 by_cases h:hi=0
 ·subst h
  exact (div64_0 lo y w hy hy2 hl hl2).mono fun e w' ⟨h1,n,h2⟩=>⟨by rw [h1,Int.zero_mul,Int.zero_add],by rw [h2];exact below_drewN (Below.refl _ _) n⟩
 ·obtain ⟨s,h1,h2,h3,h4⟩:=lz_any y w hy hy2
  exact (div64_1 hi lo y s w hy hy2 hl hl2 (by omega) hh2 h1 h4 h2 h3).mono fun e w' ⟨k1,k2⟩=>⟨k1,by rw [← k2];exact Below.refl _ _⟩
theorem div_facts {z y:Int} (h0:0≤z) (hy:0<y):(hi6 z%y*18446744073709551616+lo6 z)/y=lo6 (z/y)∧(hi6 z%y*18446744073709551616+lo6 z)%y=z%y∧hi6 z/y=hi6 (z/y):=by
 have e:=Int.emod_add_mul_ediv (hi6 z) y
 have e1:=Int.emod_nonneg (hi6 z) (by omega:y≠0)
 have e2:=Int.emod_lt_of_pos (hi6 z) hy
 have ez:z=hi6 z*18446744073709551616+lo6 z:=by unfold hi6 lo6;omega
 have l0:0≤lo6 z:=by unfold lo6;omega
 have l1:lo6 z<18446744073709551616:=by unfold lo6;omega
 generalize hi6 z=h at *
 generalize lo6 z=l at *
 generalize h%y=r at *
 generalize h/y=a at *
 have ez2:z=(r*18446744073709551616+l)+y*(a*18446744073709551616):=by
  rw [ez,← e,Int.add_mul,Int.mul_assoc];omega
 have b0:0≤(r*18446744073709551616+l)/y:=Int.ediv_nonneg (by omega) (by omega)
 have b1:(r*18446744073709551616+l)/y<18446744073709551616:=Int.ediv_lt_of_lt_mul hy (by omega)
 have q:z/y=(r*18446744073709551616+l)/y+a*18446744073709551616:=by rw [ez2,Int.add_mul_ediv_left _ _ (by omega:y≠0)]
 refine ⟨?_,?_,?_⟩
 ·rw [q];unfold lo6;omega
 ·rw [ez2,Int.add_mul_emod_self_left]
 ·rw [q];unfold hi6;omega
set_option maxHeartbeats 4000000 in
theorem qdiv_any (z y:Int) (w:World) (hz:0≤z) (hz2:z<340282366920938463463374607431768211456) (hy:0<y) (hy2:y<18446744073709551616) :
 Calls Tryz.prog 323 #[.int .u64 (hi6 z),.int .u64 (lo6 z),.int .u64 y] w fun e w'=>e=.returned (.tuple #[.int .u64 (hi6 (z/y)),.int .u64 (lo6 (z/y)),.int .u64 (z%y)])∧Below w.heap.size w w':=by
 have l0:0≤lo6 z:=by unfold lo6;omega
 have l1:lo6 z<18446744073709551616:=by unfold lo6;omega
 have h0:0≤hi6 z:=by unfold hi6;omega
 have h1:hi6 z<18446744073709551616:=by unfold hi6;omega
 have e1:=Int.emod_nonneg (hi6 z) (by omega:y≠0)
 have e2:=Int.emod_lt_of_pos (hi6 z) hy
 obtain ⟨f1,f2,f3⟩:=div_facts hz hy
 have hA:=fun w'=>div64_any 0 (hi6 z) y w' hy hy2 h0 h1 (by omega) hy
 have hB:=fun w'=>div64_any (hi6 z%y) (lo6 z) y w' hy hy2 l0 l1 e1 e2
 rw [Int.zero_mul,Int.zero_add,f3] at hA
 rw [f1,f2] at hB
 generalize hi6 (z/y)=qh at *
 generalize lo6 (z/y)=ql at *
 generalize z%y=r at *
 generalize hi6 z%y=r1 at *
 generalize hi6 z=zh at *
 generalize lo6 z=zl at *
 clear l0 l1 h0 h1 e1 e2 f1 f2 f3 hz hz2
 go_enter Tryz.func323,Tryz.ntmps323
 go_wp2_with fail
 refine (hA _).mono ?_
 rintro e w1 ⟨rfl,hb1⟩
 go_wp2_with fail
 refine (hB _).mono ?_
 rintro e w2 ⟨rfl,hb2⟩
 go_wp2_with fail
 go_returns
 exact ⟨rfl,hb1.trans (hb2.mono hb1.size)⟩
set_option maxRecDepth 100000 in
set_option maxHeartbeats 4000000 in
theorem size_wd (a:Int) (w:World) (ha:Wd a):Calls Tryz.prog 322 #[WV a] w fun e w'=>e=.returned (.tuple #[.int .u64 (hi6 (ab a)),.int .u64 (lo6 (ab a))])∧Below w.heap.size w w':=by
 by_cases hn:a<0
 ·obtain ⟨ua,c,e1,e2,d,e3⟩:=apart_facts ha hn
  have h1:=(wh a).s.2 hn
  clear ha hn
  go_enter Tryz.func322,Tryz.ntmps322
  go_wp2
  go_returns
  exact ⟨rfl,by go_grown⟩
 ·have h1:0≤hi6 a:=by unfold hi6;omega
  have e1:IntKind.u64.wrap (hi6 a)=hi6 (ab a):=by rw [uw];unfold ab;rw [if_neg hn];unfold hi6;unfold Wd at ha;omega
  have e2:lo6 a=lo6 (ab a):=by unfold ab;rw [if_neg hn]
  have E2:=Lib.hid e2
  have hbz:=(Below.refl w.heap.size w).alloc (Nat.le_refl _) (.cells (wdA a) 289)
  clear ha hn e2
  go_enter Tryz.func322,Tryz.ntmps322
  go_wp2
  go_quiet (fail)
  go_wp2
  go_returns
  exact ⟨ret_t2 rfl E2.out,below_drewN hbz _⟩
set_option maxRecDepth 100000 in
set_option maxHeartbeats 4000000 in
theorem qaway_any (z:Int) (neg:Bool) (w:World) (h0:0≤z) (h1:Wd z):Calls Tryz.prog 325 #[.int .u64 (hi6 z),.int .u64 (lo6 z),.bool neg] w fun e w'=>e=.returned (.tuple #[WV (if neg=true then -z else z),.bool true])∧Below w.heap.size w w':=by
 obtain ⟨c,uh,d,e3,e4,e5⟩:=minus_facts h0 h1
 unfold Wd at h1
 have e1:¬9223372036854775808<hi6 z:=by unfold hi6;omega
 have e2:(hi6 z==9223372036854775808)=false:=beq_eq_false_iff_ne.2 (by unfold hi6;omega)
 have e6:hi6 z<9223372036854775808:=by unfold hi6;omega
 have e7:wrap64 (hi6 z)=hi6 z:=by rw [w64];unfold hi6;omega
 clear h0 h1
 cases neg
 all_goals
  go_enter Tryz.func325,Tryz.ntmps325
  go_wp2
  go_returns
  exact ⟨rfl,by go_grown⟩
def cutF (z:Int):Int:=if z < -70368744177664 then -70368744177664 else if 70368744177664<z then 70368744177664 else z
set_option maxHeartbeats 4000000 in
theorem qcut_any (z:Int) (w:World) (hz:Wd z):Calls Tryz.prog 280 #[WV z] w fun e w'=>e=.returned (.int .i64 (cutF z))∧Below w.heap.size w w':=by
 have hL:=(Lie.start w).alloc (wdA z) 289
 by_cases hi:J64 z
 ·have hF:=fun w'=>fits64_yes z w' hi
  have hS:=fun w'=>wsign_any z w'
  have hc:(z < -70368744177664∧sgn z<0)∨(70368744177664<z∧0≤sgn z)∨(-70368744177664≤z∧z≤70368744177664):=by unfold sgn;split <;> (try split) <;> omega
  clear hi hz
  rcases hc with ⟨h1,h2⟩|⟨h1,h2⟩|⟨h1,h2⟩
  ·have HC:=Lib.hid (show cutF z=-70368744177664 by unfold cutF;rw [if_pos h1])
   go_enter Tryz.func280,Tryz.ntmps280
   go_wp2_with (first
    | (go_at_call 299;(with_reducible refine (hF _).mono ?_);rintro e w1 ⟨rfl,hb1⟩;have hL1:=hL.nx hb1;have k1:Bk w1 w.heap.size 289 (wdA z):=hL1.k 0 (by simp);obtain ⟨c0,c1⟩:=k1.cell2)
    | (go_at_call 287;(with_reducible refine (hS _).mono ?_);rintro e w2 ⟨rfl,hb2⟩;have hL2:=hL1.nx hb2))
   go_returns
   exact ⟨ret_int HC.out.symm,hL2.bel⟩
  ·have HC:=Lib.hid (show cutF z=70368744177664 by unfold cutF;rw [if_neg (by omega),if_pos h1])
   go_enter Tryz.func280,Tryz.ntmps280
   go_wp2_with (first
    | (go_at_call 299;(with_reducible refine (hF _).mono ?_);rintro e w1 ⟨rfl,hb1⟩;have hL1:=hL.nx hb1;have k1:Bk w1 w.heap.size 289 (wdA z):=hL1.k 0 (by simp);obtain ⟨c0,c1⟩:=k1.cell2)
    | (go_at_call 287;(with_reducible refine (hS _).mono ?_);rintro e w2 ⟨rfl,hb2⟩;have hL2:=hL1.nx hb2))
   go_returns
   exact ⟨ret_int HC.out.symm,hL2.bel⟩
  ·have HC:=Lib.hid (show cutF z=z by unfold cutF;rw [if_neg (by omega),if_neg (by omega)])
   go_enter Tryz.func280,Tryz.ntmps280
   go_wp2_with (go_at_call 299;(with_reducible refine (hF _).mono ?_);rintro e w1 ⟨rfl,hb1⟩;have hL1:=hL.nx hb1;have k1:Bk w1 w.heap.size 289 (wdA z):=hL1.k 0 (by simp);obtain ⟨c0,c1⟩:=k1.cell2)
   go_returns
   exact ⟨ret_int HC.out.symm,hL1.bel⟩
 ·have hF:=fun w'=>fits64_no z w' hi
  have hS:=fun w'=>wsign_any z w'
  have hc:(sgn z<0∧cutF z=-70368744177664)∨(0≤sgn z∧cutF z=70368744177664):=by unfold sgn cutF;unfold J64 at hi;split <;> (try split) <;> (try split) <;> omega
  clear hi hz
  rcases hc with ⟨h1,h2⟩|⟨h1,h2⟩
  all_goals
   have HC:=Lib.hid h2
   clear h2
   go_enter Tryz.func280,Tryz.ntmps280
   go_wp2_with (first
    | (go_at_call 299;(with_reducible refine (hF _).mono ?_);rintro e w1 ⟨rfl,hb1⟩;have hL1:=hL.nx hb1;have k1:Bk w1 w.heap.size 289 (wdA z):=hL1.k 0 (by simp);obtain ⟨c0,c1⟩:=k1.cell2)
    | (go_at_call 287;(with_reducible refine (hS _).mono ?_);rintro e w2 ⟨rfl,hb2⟩;have hL2:=hL1.nx hb2))
   go_returns
   exact ⟨ret_int HC.out.symm,hL2.bel⟩
end Go.Proofs.YtjbelhpgbcnlmaaGreat
end
section
set_option linter.unusedVariables false
namespace Go.Proofs.YtjbelhpgbcnlmaaGreat
open Go.RowKit
def fq (a b:Int):Int:=if b<0 then -a / -b else a/b
def fr (a b:Int):Int:=a-b*fq a b
theorem neg_div {A Y:Int} (hY:0<Y):-A/Y=if A%Y=0 then -(A/Y) else -(A/Y+1):=by
 have e:=Int.emod_add_mul_ediv A Y
 have e1:=Int.emod_nonneg A (by omega:Y≠0)
 have e2:=Int.emod_lt_of_pos A hY
 split
 ·rename_i h
  refine ((Int.ediv_emod_unique hY (r:=0)).2 ⟨?_,by omega,hY⟩).1
  rw [Int.mul_neg];omega
 ·rename_i h
  refine ((Int.ediv_emod_unique hY (r:=Y-A%Y)).2 ⟨?_,by omega,by omega⟩).1
  rw [Int.mul_neg,Int.mul_add,Int.mul_one];omega
theorem fq_facts {a b:Int} (hb:b≠0):0<ab b∧0≤ab a ∧
 (((!(decide (hi6 a<0)==decide (b<0)))=true∧0<ab a%ab b→fq a b=-(ab a/ab b+1)∧fr a b=if b<0 then -(ab b-ab a%ab b) else ab b-ab a%ab b) ∧
  ((!(decide (hi6 a<0)==decide (b<0)))=true∧ab a%ab b=0→fq a b=-(ab a/ab b)∧fr a b=if b<0 then -(ab a%ab b) else ab a%ab b) ∧
  ((!(decide (hi6 a<0)==decide (b<0)))=false→fq a b=ab a/ab b∧fr a b=if b<0 then -(ab a%ab b) else ab a%ab b)):=by
 have hY:0<ab b:=by unfold ab;split <;> omega
 have hA:0≤ab a:=by unfold ab;split <;> omega
 have hs:=(wh a).s
 have e:=Int.emod_add_mul_ediv (ab a) (ab b)
 have e1:=Int.emod_nonneg (ab a) (by omega:ab b≠0)
 have hn:=neg_div (A:=ab a) hY
 have hq:fq a b=if (a<0 ↔ b<0) then ab a/ab b else -ab a/ab b:=by
  unfold fq ab
  by_cases h1:a<0 <;> by_cases h2:b<0 <;> simp [h1,h2]
 have hr:fr a b=a-b*fq a b:=rfl
 have hba:b=if b<0 then -ab b else ab b:=by unfold ab;split <;> omega
 have haa:a=if a<0 then -ab a else ab a:=by unfold ab;split <;> omega
 refine ⟨hY,hA,?_,?_,?_⟩
 ·rintro ⟨h1,h2⟩
  have h3:¬(a<0 ↔ b<0):=by simpa [hs] using h1
  rw [if_neg h3,hn,if_neg (by omega)] at hq
  refine ⟨hq,?_⟩
  rw [hr,hq]
  by_cases hb0:b<0
  ·rw [if_pos hb0] at hba ⊢
   rw [if_neg (by omega)] at haa
   have k:b*-(ab a/ab b+1)=ab b*(ab a/ab b)+ab b:=by rw [hba,Int.neg_mul_neg,Int.mul_add,Int.mul_one,← hba]
   rw [k];omega
  ·rw [if_neg hb0] at hba ⊢
   rw [if_pos (by omega)] at haa
   have k:b*-(ab a/ab b+1)=-(ab b*(ab a/ab b)+ab b):=by rw [Int.mul_neg,Int.mul_add,Int.mul_one,← hba]
   rw [k];omega
 ·rintro ⟨h1,h2⟩
  have h3:¬(a<0 ↔ b<0):=by simpa [hs] using h1
  rw [if_neg h3,hn,if_pos h2] at hq
  refine ⟨hq,?_⟩
  rw [hr,hq]
  by_cases hb0:b<0
  ·rw [if_pos hb0] at hba ⊢
   rw [if_neg (by omega)] at haa
   have k:b*-(ab a/ab b)=ab b*(ab a/ab b):=by rw [hba,Int.neg_mul_neg,← hba]
   rw [k];omega
  ·rw [if_neg hb0] at hba ⊢
   rw [if_pos (by omega)] at haa
   have k:b*-(ab a/ab b)=-(ab b*(ab a/ab b)):=by rw [Int.mul_neg,← hba]
   rw [k];omega
 ·intro h1
  have h3:a<0 ↔ b<0:=by simpa [hs] using h1
  rw [if_pos h3] at hq
  refine ⟨hq,?_⟩
  rw [hr,hq]
  by_cases hb0:b<0
  ·rw [if_pos hb0] at hba ⊢
   rw [if_pos (by omega)] at haa
   have k:b*(ab a/ab b)=-(ab b*(ab a/ab b)):=by rw [hba,Int.neg_mul,← hba]
   rw [k];omega
  ·rw [if_neg hb0] at hba ⊢
   rw [if_neg (by omega)] at haa
   rw [← hba];rw [← hba] at e;omega
theorem res_cell_tmp2 {P:Program} {fn:Func} {p q q':Tmp} {ty:TypeId} (h:fn.results=#[.cell p ty,.tmp q,.tmp q']) {tmps:Array Value} {w:World} {g:Nat} {t:TypeId} {cs:Array Value} (hK:Bk w g t cs) {d:TypeDesc}
 (hp:tmps.getD p undef=.pointer (some ⟨g,0,none⟩)) (hu:P.underlying ty=some d) (hd:(match d with|.struct _|.array _ _=>true|_=>false)=true) (hi:(P.info? ty).map (·.size)=some cs.size) :
 (results fn tmps).run P w=.ok (.tuple #[.agg cs,tmps.getD q undef,tmps.getD q' undef]) w:=by
 have hp':tmps[p]?.getD undef=.pointer (some ⟨g,0,none⟩):=by simpa using hp
 simp [results,h,hp',asAddr,run_loadVar_row w g t ty cs (0,0) d hK hu hd hi]
theorem res_wd_tmp2 {fn:Func} {p q q':Tmp} (h:fn.results=#[.cell p 289,.tmp q,.tmp q']) {tmps:Array Value} {w:World} {g:Nat} {z:Int} (hK:Bk w g 289 (wdA z))
 (hp:tmps.getD p undef=.pointer (some ⟨g,0,none⟩)):(results fn tmps).run Tryz.prog w=.ok (.tuple #[WV z,tmps.getD q undef,tmps.getD q' undef]) w :=
 res_cell_tmp2 h hK hp Tryz.underlying289 rfl wd_size
def Wq (z:Int):Prop:=-85070591730234615865843651857942052864≤z∧z≤85070591730234615865843651857942052864
theorem q_room {a b:Int} (ha:Wq a) (hb:b≠0):0≤ab a/ab b∧ab a/ab b≤85070591730234615865843651857942052864:=by
 have hY:0<ab b:=by unfold ab;split <;> omega
 have hA:0≤ab a:=by unfold ab;split <;> omega
 have hA2:ab a≤85070591730234615865843651857942052864:=by unfold ab;unfold Wq at ha;split <;> omega
 have h0:=Int.ediv_nonneg hA (by omega:0≤ab b)
 have h1:=Int.ediv_le_self (ab b) hA
 omega
theorem r_room {a b:Int} (hb:b≠0) (hb2:J64 b):0≤ab a%ab b∧ab a%ab b<ab b∧ab b≤9223372036854775808:=by
 have hY:0<ab b:=by unfold ab;split <;> omega
 have e1:=Int.emod_nonneg (ab a) (by omega:ab b≠0)
 have e2:=Int.emod_lt_of_pos (ab a) hY
 refine ⟨e1,e2,?_⟩
 unfold ab;unfold J64 at hb2;split <;> omega
set_option maxRecDepth 100000 in
set_option maxHeartbeats 8000000 in
theorem qwide_any (a b:Int) (w:World) (ha:Wq a) (hb:b≠0) (hb2:J64 b) :
 Calls Tryz.prog 279 #[WV a,.int .i64 b] w fun e w'=>e=.returned (.tuple #[WV (fq a b),.int .i64 (fr a b),.bool true])∧Below w.heap.size w w':=by
 have hwd:Wd a:=by unfold Wq at ha;unfold Wd;omega
 obtain ⟨f1,f2,f3,f4,f5⟩:=fq_facts (a:=a) hb
 obtain ⟨q1,q2⟩:=q_room ha hb
 obtain ⟨r1,r2,r3⟩:=r_room (a:=a) hb hb2
 have hb0:(b==0)=false:=beq_eq_false_iff_ne.2 hb
 have hSz:=fun w'=>size_wd a w' hwd
 have hDv:=fun w'=>qdiv_any (ab a) (ab b) w' f2 (by unfold ab;unfold Wd at hwd;split <;> omega) f1 (by omega)
 obtain ⟨ub,hub⟩:∃ ub,IntKind.u64.wrap b=ub:=⟨_,rfl⟩
 have hub2:(b<0∧IntKind.u64.wrap (-ub)=ab b)∨(0≤b∧ub=ab b):=by
  rw [uw] at hub
  unfold J64 at hb2
  by_cases h:b<0
  ·exact .inl ⟨h,by rw [uw,← hub];unfold ab;rw [if_pos h];omega⟩
  ·exact .inr ⟨by omega,by rw [← hub];unfold ab;rw [if_neg h];omega⟩
 have hL:=((Lie.start w).alloc (wdA a) 289).alloc #[.int .i64 0,.int .u64 0] 289
 simp only [World.size_alloc] at hL
 have ha6:hi6 a<0∨0≤hi6 a:=by omega
 rcases ha6 with h1|h1
 ·rcases hub2 with ⟨h2,hu⟩|⟨h2,hu⟩
  ·skip
   have hng:(!(decide (hi6 a<0)==decide (b<0)))=false:=by rw [decide_eq_true h1,decide_eq_true h2];rfl
   obtain ⟨g1,g2⟩:=f5 hng
   rw [if_pos h2] at g2
   have hAw:=fun w'=>(qaway_any (ab a/ab b) false w' (by omega) (by unfold Wd;omega)).mono (R':=fun e w''=>e=.returned (.tuple #[WV (fq a b),.bool true])∧Below w'.heap.size w' w'') fun e w'' ⟨k1,k2⟩=>⟨by rw [k1,g1];rfl,k2⟩
   obtain ⟨v,hv⟩:∃ v,-(ab a%ab b)=v:=⟨_,rfl⟩
   have e6:wrap64 (IntKind.u64.wrap (-(ab a%ab b)))=v:=by rw [uw,w64,← hv];omega
   rw [hv] at g2
   clear hv
   have G2:=Lib.hid g2
   clear f1 f2 f3 f4 f5 g1 g2 q1 q2 hng ha hwd hb2 r3 hb
   generalize ab a/ab b=q at *
   generalize hrr:ab a%ab b=r at *
   clear hrr
   generalize ab b=Y at *
   have db:decide (b<0)=true:=decide_eq_true h2
   have da:decide (hi6 a<0)=true:=decide_eq_true h1
   go_enter Tryz.func279,Tryz.ntmps279
   go_wp2_with (first
    | (go_at_call 322;(with_reducible refine (hSz _).mono ?_);rintro e w1 ⟨rfl,hb1⟩;have hL1:=hL.nx hb1;have k1:Bk w1 w.heap.size 289 (wdA a):=hL1.k 1 (by simp);obtain ⟨c0,c1⟩:=k1.cell2)
    | (go_at_call 323;(with_reducible refine (hDv _).mono ?_);rintro e w2 ⟨rfl,hb2⟩;have hL2:=hL1.nx hb2;have k2:Bk w2 w.heap.size 289 (wdA a):=hL2.k 1 (by simp);obtain ⟨d0,d1⟩:=k2.cell2)
    | (go_at_call 325;(with_reducible refine (hAw _).mono ?_);rintro e w3 ⟨rfl,hb3⟩;have hL3:=(hL2.nx hb3).alloc (wdA (fq a b)) 289;have k3:Bk _ (w.heap.size+1) 289 #[.int .i64 0,.int .u64 0]:=hL3.k 1 (by simp))
    | (refine stWd rfl _ _ rfl k3 rfl rfl rfl ?_;intro w4 k4 hg4 hs4))
   refine bodyPost_ret (res_wd_tmp2 rfl k4 rfl) rfl ?_
   exact ⟨by rw [G2.out];rfl,below_of_gb hL3.bel hg4 (by omega) hL3.sz⟩
  ·rw [hu] at hub
   rcases Int.lt_or_eq_of_le r1 with hr|hr
   ·skip
    have hng:(!(decide (hi6 a<0)==decide (b<0)))=true:=by rw [decide_eq_true h1,decide_eq_false (by omega)];rfl
    obtain ⟨g1,g2⟩:=f3 ⟨hng,hr⟩
    rw [if_neg (by omega)] at g2
    have hAw:=fun w'=>(qaway_any (ab a/ab b+1) true w' (by omega) (by unfold Wd;omega)).mono (R':=fun e w''=>e=.returned (.tuple #[WV (fq a b),.bool true])∧Below w'.heap.size w' w'') fun e w'' ⟨k1,k2⟩=>⟨by rw [k1,g1];rfl,k2⟩
    have e3:=fun w=>run_add' (x:=lo6 (ab a/ab b)) (y:=1) (c:=0) (s:=lo6 (ab a/ab b+1)) (d:=(lo6 (ab a/ab b)+1+0)/18446744073709551616) (by unfold lo6;omega) (by omega) (by omega) (by omega) (by unfold lo6;omega) rfl w
    have e4:IntKind.u64.wrap (hi6 (ab a/ab b)+(lo6 (ab a/ab b)+1+0)/18446744073709551616)=hi6 (ab a/ab b+1):=by rw [uw];unfold hi6 lo6;omega
    have e5:IntKind.u64.wrap (ab b-ab a%ab b)=ab b-ab a%ab b:=by rw [uw];omega
    generalize (lo6 (ab a/ab b)+1+0)/18446744073709551616=cc at *
    obtain ⟨v,hv⟩:∃ v,(ab b-ab a%ab b)=v:=⟨_,rfl⟩
    have e6:wrap64 ((ab b-ab a%ab b))=v:=by rw [w64,← hv];omega
    rw [hv] at g2
    clear hv
    have G2:=Lib.hid g2
    clear f1 f2 f3 f4 f5 g1 g2 q1 q2 hng ha hwd hb2 r3 hb
    generalize hi6 (ab a/ab b+1)=qh at *
    generalize lo6 (ab a/ab b+1)=ql at *
    generalize hi6 (ab a/ab b)=q0h at *
    generalize lo6 (ab a/ab b)=q0l at *
    generalize hrr:ab a%ab b=r at *
    clear hrr
    generalize ab b=Y at *
    have db:decide (b<0)=false:=decide_eq_false (by omega)
    have da:decide (hi6 a<0)=true:=decide_eq_true h1
    go_enter Tryz.func279,Tryz.ntmps279
    go_wp2_with (first
     | (go_at_call 322;(with_reducible refine (hSz _).mono ?_);rintro e w1 ⟨rfl,hb1⟩;have hL1:=hL.nx hb1;have k1:Bk w1 w.heap.size 289 (wdA a):=hL1.k 1 (by simp);obtain ⟨c0,c1⟩:=k1.cell2)
     | (go_at_call 323;(with_reducible refine (hDv _).mono ?_);rintro e w2 ⟨rfl,hb2⟩;have hL2:=hL1.nx hb2;have k2:Bk w2 w.heap.size 289 (wdA a):=hL2.k 1 (by simp);obtain ⟨d0,d1⟩:=k2.cell2)
     | (go_at_call 325;(with_reducible refine (hAw _).mono ?_);rintro e w3 ⟨rfl,hb3⟩;have hL3:=(hL2.nx hb3).alloc (wdA (fq a b)) 289;have k3:Bk _ (w.heap.size+1) 289 #[.int .i64 0,.int .u64 0]:=hL3.k 1 (by simp))
     | (refine stWd rfl _ _ rfl k3 rfl rfl rfl ?_;intro w4 k4 hg4 hs4))
    refine bodyPost_ret (res_wd_tmp2 rfl k4 rfl) rfl ?_
    exact ⟨by rw [G2.out];rfl,below_of_gb hL3.bel hg4 (by omega) hL3.sz⟩
   ·replace hr:=hr.symm
    have hng:(!(decide (hi6 a<0)==decide (b<0)))=true:=by rw [decide_eq_true h1,decide_eq_false (by omega)];rfl
    obtain ⟨g1,g2⟩:=f4 ⟨hng,hr⟩
    rw [if_neg (by omega)] at g2
    have hAw:=fun w'=>(qaway_any (ab a/ab b) true w' (by omega) (by unfold Wd;omega)).mono (R':=fun e w''=>e=.returned (.tuple #[WV (fq a b),.bool true])∧Below w'.heap.size w' w'') fun e w'' ⟨k1,k2⟩=>⟨by rw [k1,g1];rfl,k2⟩
    rw [hr] at g2 hDv
    have G2:=Lib.hid g2
    clear hr
    clear f1 f2 f3 f4 f5 g1 g2 q1 q2 hng ha hwd hb2 r3 hb
    generalize ab a/ab b=q at *
    generalize hrr:ab a%ab b=r at *
    clear hrr
    generalize ab b=Y at *
    have db:decide (b<0)=false:=decide_eq_false (by omega)
    have da:decide (hi6 a<0)=true:=decide_eq_true h1
    go_enter Tryz.func279,Tryz.ntmps279
    go_wp2_with (first
     | (go_at_call 322;(with_reducible refine (hSz _).mono ?_);rintro e w1 ⟨rfl,hb1⟩;have hL1:=hL.nx hb1;have k1:Bk w1 w.heap.size 289 (wdA a):=hL1.k 1 (by simp);obtain ⟨c0,c1⟩:=k1.cell2)
     | (go_at_call 323;(with_reducible refine (hDv _).mono ?_);rintro e w2 ⟨rfl,hb2⟩;have hL2:=hL1.nx hb2;have k2:Bk w2 w.heap.size 289 (wdA a):=hL2.k 1 (by simp);obtain ⟨d0,d1⟩:=k2.cell2)
     | (go_at_call 325;(with_reducible refine (hAw _).mono ?_);rintro e w3 ⟨rfl,hb3⟩;have hL3:=(hL2.nx hb3).alloc (wdA (fq a b)) 289;have k3:Bk _ (w.heap.size+1) 289 #[.int .i64 0,.int .u64 0]:=hL3.k 1 (by simp))
     | (refine stWd rfl _ _ rfl k3 rfl rfl rfl ?_;intro w4 k4 hg4 hs4))
    refine bodyPost_ret (res_wd_tmp2 rfl k4 rfl) rfl ?_
    exact ⟨by rw [G2.out];rfl,below_of_gb hL3.bel hg4 (by omega) hL3.sz⟩
 ·rcases hub2 with ⟨h2,hu⟩|⟨h2,hu⟩
  ·rcases Int.lt_or_eq_of_le r1 with hr|hr
   ·skip
    have hng:(!(decide (hi6 a<0)==decide (b<0)))=true:=by rw [decide_eq_false (by omega),decide_eq_true h2];rfl
    obtain ⟨g1,g2⟩:=f3 ⟨hng,hr⟩
    rw [if_pos h2] at g2
    have hAw:=fun w'=>(qaway_any (ab a/ab b+1) true w' (by omega) (by unfold Wd;omega)).mono (R':=fun e w''=>e=.returned (.tuple #[WV (fq a b),.bool true])∧Below w'.heap.size w' w'') fun e w'' ⟨k1,k2⟩=>⟨by rw [k1,g1];rfl,k2⟩
    have e3:=fun w=>run_add' (x:=lo6 (ab a/ab b)) (y:=1) (c:=0) (s:=lo6 (ab a/ab b+1)) (d:=(lo6 (ab a/ab b)+1+0)/18446744073709551616) (by unfold lo6;omega) (by omega) (by omega) (by omega) (by unfold lo6;omega) rfl w
    have e4:IntKind.u64.wrap (hi6 (ab a/ab b)+(lo6 (ab a/ab b)+1+0)/18446744073709551616)=hi6 (ab a/ab b+1):=by rw [uw];unfold hi6 lo6;omega
    have e5:IntKind.u64.wrap (ab b-ab a%ab b)=ab b-ab a%ab b:=by rw [uw];omega
    generalize (lo6 (ab a/ab b)+1+0)/18446744073709551616=cc at *
    obtain ⟨v,hv⟩:∃ v,-(ab b-ab a%ab b)=v:=⟨_,rfl⟩
    have e6:wrap64 (IntKind.u64.wrap (-(ab b-ab a%ab b)))=v:=by rw [uw,w64,← hv];omega
    have e7:wrap64 (IntKind.u64.wrap (ab a%ab b-ab b))=v:=by rw [uw,w64,← hv];omega
    rw [hv] at g2
    clear hv
    have G2:=Lib.hid g2
    clear f1 f2 f3 f4 f5 g1 g2 q1 q2 hng ha hwd hb2 r3 hb
    generalize hi6 (ab a/ab b+1)=qh at *
    generalize lo6 (ab a/ab b+1)=ql at *
    generalize hi6 (ab a/ab b)=q0h at *
    generalize lo6 (ab a/ab b)=q0l at *
    generalize hrr:ab a%ab b=r at *
    clear hrr
    generalize ab b=Y at *
    have db:decide (b<0)=true:=decide_eq_true h2
    have da:decide (hi6 a<0)=false:=decide_eq_false (by omega)
    go_enter Tryz.func279,Tryz.ntmps279
    go_wp2_with (first
     | (go_at_call 322;(with_reducible refine (hSz _).mono ?_);rintro e w1 ⟨rfl,hb1⟩;have hL1:=hL.nx hb1;have k1:Bk w1 w.heap.size 289 (wdA a):=hL1.k 1 (by simp);obtain ⟨c0,c1⟩:=k1.cell2)
     | (go_at_call 323;(with_reducible refine (hDv _).mono ?_);rintro e w2 ⟨rfl,hb2⟩;have hL2:=hL1.nx hb2;have k2:Bk w2 w.heap.size 289 (wdA a):=hL2.k 1 (by simp);obtain ⟨d0,d1⟩:=k2.cell2)
     | (go_at_call 325;(with_reducible refine (hAw _).mono ?_);rintro e w3 ⟨rfl,hb3⟩;have hL3:=(hL2.nx hb3).alloc (wdA (fq a b)) 289;have k3:Bk _ (w.heap.size+1) 289 #[.int .i64 0,.int .u64 0]:=hL3.k 1 (by simp))
     | (refine stWd rfl _ _ rfl k3 rfl rfl rfl ?_;intro w4 k4 hg4 hs4))
    refine bodyPost_ret (res_wd_tmp2 rfl k4 rfl) rfl ?_
    exact ⟨by rw [G2.out];rfl,below_of_gb hL3.bel hg4 (by omega) hL3.sz⟩
   ·replace hr:=hr.symm
    have hng:(!(decide (hi6 a<0)==decide (b<0)))=true:=by rw [decide_eq_false (by omega),decide_eq_true h2];rfl
    obtain ⟨g1,g2⟩:=f4 ⟨hng,hr⟩
    rw [if_pos h2] at g2
    have hAw:=fun w'=>(qaway_any (ab a/ab b) true w' (by omega) (by unfold Wd;omega)).mono (R':=fun e w''=>e=.returned (.tuple #[WV (fq a b),.bool true])∧Below w'.heap.size w' w'') fun e w'' ⟨k1,k2⟩=>⟨by rw [k1,g1];rfl,k2⟩
    rw [hr] at g2 hDv
    have G2:=Lib.hid g2
    clear hr
    clear f1 f2 f3 f4 f5 g1 g2 q1 q2 hng ha hwd hb2 r3 hb
    generalize ab a/ab b=q at *
    generalize hrr:ab a%ab b=r at *
    clear hrr
    generalize ab b=Y at *
    have db:decide (b<0)=true:=decide_eq_true h2
    have da:decide (hi6 a<0)=false:=decide_eq_false (by omega)
    go_enter Tryz.func279,Tryz.ntmps279
    go_wp2_with (first
     | (go_at_call 322;(with_reducible refine (hSz _).mono ?_);rintro e w1 ⟨rfl,hb1⟩;have hL1:=hL.nx hb1;have k1:Bk w1 w.heap.size 289 (wdA a):=hL1.k 1 (by simp);obtain ⟨c0,c1⟩:=k1.cell2)
     | (go_at_call 323;(with_reducible refine (hDv _).mono ?_);rintro e w2 ⟨rfl,hb2⟩;have hL2:=hL1.nx hb2;have k2:Bk w2 w.heap.size 289 (wdA a):=hL2.k 1 (by simp);obtain ⟨d0,d1⟩:=k2.cell2)
     | (go_at_call 325;(with_reducible refine (hAw _).mono ?_);rintro e w3 ⟨rfl,hb3⟩;have hL3:=(hL2.nx hb3).alloc (wdA (fq a b)) 289;have k3:Bk _ (w.heap.size+1) 289 #[.int .i64 0,.int .u64 0]:=hL3.k 1 (by simp))
     | (refine stWd rfl _ _ rfl k3 rfl rfl rfl ?_;intro w4 k4 hg4 hs4))
    refine bodyPost_ret (res_wd_tmp2 rfl k4 rfl) rfl ?_
    exact ⟨by rw [G2.out];rfl,below_of_gb hL3.bel hg4 (by omega) hL3.sz⟩
  ·rw [hu] at hub
   have hng:(!(decide (hi6 a<0)==decide (b<0)))=false:=by rw [decide_eq_false (by omega),decide_eq_false (by omega)];rfl
   obtain ⟨g1,g2⟩:=f5 hng
   rw [if_neg (by omega)] at g2
   have hAw:=fun w'=>(qaway_any (ab a/ab b) false w' (by omega) (by unfold Wd;omega)).mono (R':=fun e w''=>e=.returned (.tuple #[WV (fq a b),.bool true])∧Below w'.heap.size w' w'') fun e w'' ⟨k1,k2⟩=>⟨by rw [k1,g1];rfl,k2⟩
   obtain ⟨v,hv⟩:∃ v,(ab a%ab b)=v:=⟨_,rfl⟩
   have e6:wrap64 ((ab a%ab b))=v:=by rw [w64,← hv];omega
   rw [hv] at g2
   subst hv
   have G2:=Lib.hid g2
   clear f1 f2 f3 f4 f5 g1 g2 q1 q2 hng ha hwd hb2 r3 hb
   generalize ab a/ab b=q at *
   generalize hrr:ab a%ab b=r at *
   clear hrr
   generalize ab b=Y at *
   have db:decide (b<0)=false:=decide_eq_false (by omega)
   have da:decide (hi6 a<0)=false:=decide_eq_false (by omega)
   go_enter Tryz.func279,Tryz.ntmps279
   go_wp2_with (first
    | (go_at_call 322;(with_reducible refine (hSz _).mono ?_);rintro e w1 ⟨rfl,hb1⟩;have hL1:=hL.nx hb1;have k1:Bk w1 w.heap.size 289 (wdA a):=hL1.k 1 (by simp);obtain ⟨c0,c1⟩:=k1.cell2)
    | (go_at_call 323;(with_reducible refine (hDv _).mono ?_);rintro e w2 ⟨rfl,hb2⟩;have hL2:=hL1.nx hb2;have k2:Bk w2 w.heap.size 289 (wdA a):=hL2.k 1 (by simp);obtain ⟨d0,d1⟩:=k2.cell2)
    | (go_at_call 325;(with_reducible refine (hAw _).mono ?_);rintro e w3 ⟨rfl,hb3⟩;have hL3:=(hL2.nx hb3).alloc (wdA (fq a b)) 289;have k3:Bk _ (w.heap.size+1) 289 #[.int .i64 0,.int .u64 0]:=hL3.k 1 (by simp))
    | (refine stWd rfl _ _ rfl k3 rfl rfl rfl ?_;intro w4 k4 hg4 hs4))
   refine bodyPost_ret (res_wd_tmp2 rfl k4 rfl) rfl ?_
   exact ⟨by rw [G2.out];rfl,below_of_gb hL3.bel hg4 (by omega) hL3.sz⟩
end Go.Proofs.YtjbelhpgbcnlmaaGreat
end
section
set_option linter.unusedVariables false
namespace Go.Proofs.YtjbelhpgbcnlmaaGreat
open Go.RowKit
theorem fq_wd {a b:Int} (ha:Wq a) (hb:b≠0):Wd (fq a b):=by
 obtain ⟨f1,f2,f3,f4,f5⟩:=fq_facts (a:=a) hb
 obtain ⟨q1,q2⟩:=q_room ha hb
 have e1:=Int.emod_nonneg (ab a) (by omega:ab b≠0)
 unfold Wd
 cases h:(!(decide (hi6 a<0)==decide (b<0)))
 ·rw [(f5 h).1];omega
 ·rcases Int.lt_or_eq_of_le e1 with hr|hr
  ·rw [(f3 ⟨h,hr⟩).1];omega
  ·rw [(f4 ⟨h,hr.symm⟩).1];omega
def plc (a b:Int):Int:=cutF (fq (a*65536) b)
theorem qplace_0 (a:Int) (w:World):Calls Tryz.prog 227 #[WV a,.int .i64 0] w fun e w'=>e=.returned (.tuple #[.int .i64 0,.bool false])∧Below w.heap.size w w':=by
 go_enter Tryz.func227,Tryz.ntmps227
 go_wp2_with fail
 go_returns
 exact ⟨rfl,by go_grown⟩
set_option maxRecDepth 100000 in
set_option maxHeartbeats 4000000 in
theorem qplace_any (a b:Int) (w:World) (ha:Wq (a*65536)) (hb:b≠0) (hb2:J64 b) :
 Calls Tryz.prog 227 #[WV a,.int .i64 b] w fun e w'=>e=.returned (.tuple #[.int .i64 (plc a b),.bool true])∧Below w.heap.size w w':=by
 have hS:=fun w'=>shl16_any a w' (by unfold Wq at ha;unfold Wd;omega)
 have hW:=fun w'=>qwide_any (a*65536) b w' ha hb hb2
 have hC:=fun w'=>qcut_any (fq (a*65536) b) w' (fq_wd ha hb)
 have HP:=Lib.hid (show plc a b=cutF (fq (a*65536) b) from rfl)
 have hb0:(b==0)=false:=beq_eq_false_iff_ne.2 hb
 have hL:=(Lie.start w).alloc (wdA a) 289
 generalize fr (a*65536) b=r at *
 generalize fq (a*65536) b=q at *
 generalize a*65536=s at *
 clear ha hb hb2
 go_enter Tryz.func227,Tryz.ntmps227
 go_wp2_with (first
  | (go_at_call 277;(with_reducible refine (hS _).mono ?_);rintro e w1 ⟨rfl,hb1⟩;have hL1:=(hL.nx hb1).alloc (wdA s) 289)
  | (go_at_call 279;(with_reducible refine (hW _).mono ?_);rintro e w2 ⟨rfl,hb2⟩;have hL2:=(hL1.nx hb2).alloc (wdA q) 289)
  | (go_at_call 280;(with_reducible refine (hC _).mono ?_);rintro e w3 ⟨rfl,hb3⟩;have hL3:=hL2.nx hb3))
 go_returns
 exact ⟨by rw [HP.out];rfl,hL3.bel⟩
end Go.Proofs.YtjbelhpgbcnlmaaGreat
end
end
