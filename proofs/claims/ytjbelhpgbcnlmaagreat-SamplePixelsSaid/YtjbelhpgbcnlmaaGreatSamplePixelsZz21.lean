/- Several texts in one: SamplePixels: (*Sampler).Pixel. -/
import Derived.Test.YtjbelhpgbcnlmaaGreatSamplePixelsZz19
import Derived.Test.YtjbelhpgbcnlmaaGreatSamplePixelsZz20
import Derived.Test.YtjbelhpgbcnlmaaGreatSamplePixelsZz4
import Derived.Test.YtjbelhpgbcnlmaaGreatSamplePixelsZz3
section
set_option linter.unusedVariables false
namespace Go.Proofs.YtjbelhpgbcnlmaaGreat
open Go.RowKit
theorem me_lv33 (v:Value) (w:World):(method 554 86 v "Levels").run Tryz.prog w=.ok (370,v) w:=by
 obtain ⟨m,hm,hp,hf⟩:=me_finds "Levels" 370 (by kernel_rfl)
 unfold method
 simp [follow,receiverAt,Place.get,hm,hp,hf]
theorem levels_33 (A:Option Addr) (n c:Nat) (w:World):Calls Tryz.prog 370 #[.slice A n c] w fun e w'=>e=.returned (.int .i64 (n:Nat))∧w=w':=by
 go_enter Tryz.func370,Tryz.ntmps370
 go_wp2_with fail
 go_returns
 exact ⟨rfl,rfl⟩
set_option maxRecDepth 100000 in
set_option maxHeartbeats 8000000 in
theorem spix_err (A:Option Addr) (n c g:Nat) (nm fb fr:Value) (nn:Int) (sup:Bool) (mo c0 c1 c2 c3 x y e0:Int) (p:Option Addr) (w:World) (hK:Bk w g 95 (samA (.slice A n c) nm fb fr nn sup mo c0 c1 c2 c3)) (hn:1≤n∧n≤16) (hc:Hid (e0≠0))
 (hO:Calls Tryz.prog 46 #[.pointer p,.int .i64 x,.int .i64 y,.int .i64 ((n:Int)-1)] w fun e w''=>e=.returned (.tuple #[.int .i64 0,.int .i64 e0])∧Below w.heap.size w w'') :
 Calls Tryz.prog 15 #[.pointer (some ⟨g,0,none⟩),.pointer p,.int .i64 x,.int .i64 y] w fun e w'=>e=.returned (.tuple #[.slice none 0 0,.int .i64 e0])∧Below w.heap.size w w':=by
 have hq:=fun w=>eql_src (.slice A n c) w
 have hM:=fun (v:Value) (w:World)=>me_lv33 v w
 have hL:=fun w'=>levels_33 A n c w'
 have d0:=(hK.cell 0).trans (show _=some (.iface 86 (.slice A n c)) from rfl)
 have hb:(e0 != 0)=true:=by simpa using hc.out
 obtain ⟨n0,n1⟩:=hn
 have hw1:wrap64 ((n:Int)-1)=(n:Int)-1:=IntWalk.wrap64_in _ ⟨by omega,by omega⟩
 clear hK
 go_enter Tryz.func15,Tryz.ntmps15
 go_wp2_with (first
  | (go_at_call 370;(with_reducible refine (hL _).mono ?_);rintro e w1 ⟨rfl,rfl⟩)
  | (go_at_call 46;(with_reducible refine hO.mono ?_);rintro e w2 ⟨rfl,hb2⟩))
 go_returns
 exact ⟨rfl,hb2⟩
set_option maxRecDepth 100000 in
set_option maxHeartbeats 8000000 in
theorem spix_plain (A:Option Addr) (n c g:Nat) (nm fb fr:Value) (nn:Int) (mo c0 c1 c2 c3 x y z U V:Int) (C:Nat) (L:List Int) (p:Option Addr) (w:World) (hK:Bk w g 95 (samA (.slice A n c) nm fb fr nn false mo c0 c1 c2 c3)) (hn:1≤n∧n≤16)
 (hO:Calls Tryz.prog 46 #[.pointer p,.int .i64 x,.int .i64 y,.int .i64 ((n:Int)-1)] w fun e w''=>e=.returned (.tuple #[.int .i64 z,.int .i64 0])∧Below w.heap.size w w'')
 (hAt:∀ w',Below w.heap.size w w'→Calls Tryz.prog 48 #[.pointer p,.int .i64 x,.int .i64 y,.int .i64 1] w' fun e w''=>e=.returned (.tuple #[.int .i64 U,.int .i64 V,.int .i64 0])∧Below w'.heap.size w' w'')
 (hS:∀ w',Below w.heap.size w w'→Calls Tryz.prog 49 #[.pointer (some ⟨g,0,none⟩),.int .i64 z,.int .i64 U,.int .i64 V] w' fun e w''=>∃ s,e=.returned (.tuple #[s,.int .i64 0])∧w''.ownsRow w'.heap.size 5 1 s C (L.map (Value.int .u8))∧Below w'.heap.size w' w'') :
 Calls Tryz.prog 15 #[.pointer (some ⟨g,0,none⟩),.pointer p,.int .i64 x,.int .i64 y] w fun e w'=>∃ s,e=.returned (.tuple #[s,.int .i64 0])∧w'.ownsRow w.heap.size 5 1 s C (L.map (Value.int .u8))∧Below w.heap.size w w':=by
 have hq:=fun w=>eql_src (.slice A n c) w
 have hM:=fun (v:Value) (w:World)=>me_lv33 v w
 have hL:=fun w'=>levels_33 A n c w'
 have d0:=(hK.cell 0).trans (show _=some (.iface 86 (.slice A n c)) from rfl)
 have hgl:=hK.lt
 obtain ⟨n0,n1⟩:=hn
 have hw1:wrap64 ((n:Int)-1)=(n:Int)-1:=IntWalk.wrap64_in _ ⟨by omega,by omega⟩
 go_enter Tryz.func15,Tryz.ntmps15
 go_wp2_with (first
  | (go_at_call 370;(with_reducible refine (hL _).mono ?_);rintro e w1 ⟨rfl,rfl⟩)
  | (go_at_call 46;(with_reducible refine hO.mono ?_);rintro e w2 ⟨rfl,hb2⟩;have d3:=((hK.nx hb2).cell 5).trans (show _=some (.bool false) from rfl))
  | (go_at_call 48;(with_reducible refine (hAt _ hb2).mono ?_);rintro e w3 ⟨rfl,hb3⟩;have hz2:=hb2.size;have hb23:=hb2.trans (hb3.mono hz2))
  | (go_at_call 49;(with_reducible refine (hS _ hb23).mono ?_);rintro e w4 ⟨s4,rfl,ho4,hb4⟩))
 go_returns
 have hz3:=hb23.size
 exact ⟨_,rfl,own_base ho4 hz3,hb23.trans (hb4.mono hz3)⟩
set_option maxRecDepth 100000 in
set_option maxHeartbeats 8000000 in
theorem spix_super (A:Option Addr) (n c g:Nat) (nm fb fr:Value) (nn:Int) (mo c0 c1 c2 c3 x y z:Int) (C:Nat) (L:List Int) (p:Option Addr) (w:World) (hK:Bk w g 95 (samA (.slice A n c) nm fb fr nn true mo c0 c1 c2 c3)) (hn:1≤n∧n≤16)
 (hO:Calls Tryz.prog 46 #[.pointer p,.int .i64 x,.int .i64 y,.int .i64 ((n:Int)-1)] w fun e w''=>e=.returned (.tuple #[.int .i64 z,.int .i64 0])∧Below w.heap.size w w'')
 (hS:∀ w',Below w.heap.size w w'→Calls Tryz.prog 47 #[.pointer (some ⟨g,0,none⟩),.pointer p,.int .i64 z,.int .i64 x,.int .i64 y] w' fun e w''=>∃ s,e=.returned (.tuple #[s,.int .i64 0])∧w''.ownsRow w'.heap.size 5 1 s C (L.map (Value.int .u8))∧Below w'.heap.size w' w'') :
 Calls Tryz.prog 15 #[.pointer (some ⟨g,0,none⟩),.pointer p,.int .i64 x,.int .i64 y] w fun e w'=>∃ s,e=.returned (.tuple #[s,.int .i64 0])∧w'.ownsRow w.heap.size 5 1 s C (L.map (Value.int .u8))∧Below w.heap.size w w':=by
 have hq:=fun w=>eql_src (.slice A n c) w
 have hM:=fun (v:Value) (w:World)=>me_lv33 v w
 have hL:=fun w'=>levels_33 A n c w'
 have d0:=(hK.cell 0).trans (show _=some (.iface 86 (.slice A n c)) from rfl)
 have hgl:=hK.lt
 obtain ⟨n0,n1⟩:=hn
 have hw1:wrap64 ((n:Int)-1)=(n:Int)-1:=IntWalk.wrap64_in _ ⟨by omega,by omega⟩
 go_enter Tryz.func15,Tryz.ntmps15
 go_wp2_with (first
  | (go_at_call 370;(with_reducible refine (hL _).mono ?_);rintro e w1 ⟨rfl,rfl⟩)
  | (go_at_call 46;(with_reducible refine hO.mono ?_);rintro e w2 ⟨rfl,hb2⟩;have d3:=((hK.nx hb2).cell 5).trans (show _=some (.bool true) from rfl))
  | (go_at_call 47;(with_reducible refine (hS _ hb2).mono ?_);rintro e w4 ⟨s4,rfl,ho4,hb4⟩))
 go_returns
 have hz3:=hb2.size
 exact ⟨_,rfl,own_base ho4 hz3,hb2.trans (hb4.mono hz3)⟩
end Go.Proofs.YtjbelhpgbcnlmaaGreat
end
