/- Several texts in one: sample.New of images; the reference's code of images; places; bytes alike; few. Which method a source of images calls. Plain mathematics of digits of base 32768: values, normal forms, sums, rests, products, trial digits. No program in sight. The reference's numbers that lie in a variable's block: stores, loads, results. -/
import Derived.Test.YtjbelhpgbcnlmaaGreatSamplePixelsZz3
import Derived.BigRegion
import Derived.RegionTactic
import Derived.Deep.RegionWith
import Derived.Test.YtjbelhpgbcnlmaaGreatSamplePixelsZz1
section
set_option linter.unusedVariables false
namespace Go.Proofs.YtjbelhpgbcnlmaaGreat
open Go.RowKit
set_option maxRecDepth 100000 in
theorem eql_src (v:Value) (w:World):(binOp .eql 42 (.iface 86 v) .nilIface).run Tryz.prog w=.ok (.bool false) w:=by
 first | rfl|kernel_rfl|(unfold binOp;simp [Op.equalIn])
theorem snew_bad (v:Value) (k n m c0 c1 c2 c3:Int) (w:World) (h:kerC k n m≠0):Calls Tryz.prog 13 #[.iface 86 v,.int .i64 k,.int .i64 n,bdV m c0 c1 c2 c3] w fun e w'=>e=.returned (.tuple #[.pointer none,.int .i64 (kerC k n m)])∧Below w.heap.size w w':=by
 have hq:=fun w=>eql_src v w
 have hK:=fun w=>kchk_any k n m c0 c1 c2 c3 w
 have hb:(kerC k n m != 0)=true:=by simpa using h
 clear h
 generalize kerC k n m=q at *
 go_enter Tryz.func13,Tryz.ntmps13
 go_wp2_with (go_at_call 42;(with_reducible refine (hK _).mono ?_);rintro e w2 ⟨rfl,hb2⟩)
 go_returns
 exact ⟨rfl,((Below.refl _ _).alloc (Nat.le_refl _) _).trans (hb2.mono (by simp))⟩
abbrev samA (v nm fb fr:Value) (n:Int) (sup:Bool) (m c0 c1 c2 c3:Int):Array Value:=#[.iface 86 v,nm,fb,fr,.int .i64 n,.bool sup,.int .i64 m,.int .u8 c0,.int .u8 c1,.int .u8 c2,.int .u8 c3]
set_option maxRecDepth 100000 in
set_option maxHeartbeats 8000000 in
theorem snew_gen (v nm fb fr:Value) (k n m c0 c1 c2 c3:Int) (w:World) (h:kerC k n m=0) (hix:∀ w,(Instr.index 92 (.agg kerA) (.int .i64 k)).run Tryz.prog w=.ok (.agg #[nm,fb,fr]) w) (hnm:nm.oneCell'=true) (hfb:fb.oneCell'=true) (hfr:fr.oneCell'=true):Calls Tryz.prog 13 #[.iface 86 v,.int .i64 k,.int .i64 n,bdV m c0 c1 c2 c3] w fun e w'=>∃ g,e=.returned (.tuple #[.pointer (some ⟨g,0,none⟩),.int .i64 0])∧w.heap.size≤g∧Bk w' g 95 (samA v nm fb fr n (k==3) m c0 c1 c2 c3)∧Below w.heap.size w w':=by
 have hq:=fun w=>eql_src v w
 have hK:=fun w=>kchk_any k n m c0 c1 c2 c3 w
 rw [h] at hK
 clear h
 have hKe:=fun w=>kernels_any w
 generalize (kerA:Array Value)=ka at *
 go_enter Tryz.func13,Tryz.ntmps13
 go_upto_region 6 with (go_at_call 42;(with_reducible refine (hK _).mono ?_);rintro e w2 ⟨rfl,hb2⟩)
 have kb:=(Bk.new w 27 #[.int .i64 m,.int .u8 c0,.int .u8 c1,.int .u8 c2,.int .u8 c3]).nx hb2
 have hb3:=((Below.refl w.heap.size w).alloc (Nat.le_refl _) (.cells #[.int .i64 m,.int .u8 c0,.int .u8 c1,.int .u8 c2,.int .u8 c3] 27)).trans (hb2.mono (by simp))
 obtain ⟨d0,d1,d2,d3,d4⟩:=kb.cell5
 have hb2s:=hb3.size
 go_region_with (first
  | (go_at_call 43;(with_reducible refine (hKe _).mono ?_);rintro e w4 ⟨rfl,hb4⟩;obtain ⟨e0,e1,e2,e3,e4⟩:=(Bk.nx (by first | exact kb|exact kb.drew|exact kb.drewN _) hb4).cell5))
 all_goals
  go_wp2_with fail
  go_returns
  have hb5:Below w.heap.size w w4:=by first | exact hb3.trans (hb4.mono hb2s)|exact (below_drewN hb3 1).trans (hb4.mono hb2s)|exact (below_drewN hb3 _).trans (hb4.mono hb2s)
  exact ⟨_,rfl,hb5.size,Bk.new _ _ _,hb5.alloc hb5.size _⟩
set_option maxRecDepth 100000 in
set_option maxHeartbeats 4000000 in
theorem snew_ok (v:Value) (k n m c0 c1 c2 c3:Int) (w:World) (h:kerC k n m=0):Calls Tryz.prog 13 #[.iface 86 v,.int .i64 k,.int .i64 n,bdV m c0 c1 c2 c3] w fun e w'=>∃ g nm fb fr,e=.returned (.tuple #[.pointer (some ⟨g,0,none⟩),.int .i64 0])∧w.heap.size≤g∧Bk w' g 95 (samA v nm fb fr n (k==3) m c0 c1 c2 c3)∧((k=0∧fb=.func (.func 83) #[] #[])∨(k=2∧fb=.func (.func 87) #[] #[])∨((k=1∨k=3)∧fb=.func (.func 85) #[] #[]))∧Below w.heap.size w w':=by
 have hk:k=0∨k=1∨k=2∨k=3:=by
  unfold kerC at h
  split at h
  ·cases h
  ·omega
 rcases hk with rfl|rfl|rfl|rfl
 ·refine (snew_gen v (.string sNear) (.func (.func 83) #[] #[]) (.func (.func 84) #[] #[]) 0 n m c0 c1 c2 c3 w h (fun w=>by kernel_rfl) rfl rfl rfl).mono ?_
  rintro e w' ⟨g,he,hg,hK,hb⟩
  exact ⟨g,_,_,_,he,hg,hK,.inl ⟨rfl,rfl⟩,hb⟩
 ·refine (snew_gen v (.string sLinear) (.func (.func 85) #[] #[]) (.func (.func 86) #[] #[]) 1 n m c0 c1 c2 c3 w h (fun w=>by kernel_rfl) rfl rfl rfl).mono ?_
  rintro e w' ⟨g,he,hg,hK,hb⟩
  exact ⟨g,_,_,_,he,hg,hK,.inr (.inr ⟨.inl rfl,rfl⟩),hb⟩
 ·refine (snew_gen v (.string sCubic) (.func (.func 87) #[] #[]) (.func (.func 88) #[] #[]) 2 n m c0 c1 c2 c3 w h (fun w=>by kernel_rfl) rfl rfl rfl).mono ?_
  rintro e w' ⟨g,he,hg,hK,hb⟩
  exact ⟨g,_,_,_,he,hg,hK,.inr (.inl ⟨rfl,rfl⟩),hb⟩
 ·refine (snew_gen v (.string sSuper) (.func (.func 85) #[] #[]) (.func (.func 86) #[] #[]) 3 n m c0 c1 c2 c3 w h (fun w=>by kernel_rfl) rfl rfl rfl).mono ?_
  rintro e w' ⟨g,he,hg,hK,hb⟩
  exact ⟨g,_,_,_,he,hg,hK,.inr (.inr ⟨.inr rfl,rfl⟩),hb⟩
end Go.Proofs.YtjbelhpgbcnlmaaGreat
end
section
set_option linter.unusedVariables false
namespace Go.Proofs.YtjbelhpgbcnlmaaGreat
open Go.RowKit
theorem me_finds (nm:String) (f:FuncId) (h:((Tryz.t86.methods.find? (fun x=>x.name==nm)).map fun m=>(m.path,m.func))=some (#[],some (f,false))):∃ m,Tryz.t86.methods.find? (fun x=>x.name==nm)=some m∧m.path=#[]∧m.func=some (f,false):=by
 obtain ⟨m,hm,e⟩:=Option.map_eq_some_iff.1 h
 injection e with e1 e2
 exact ⟨m,hm,e1,e2⟩
theorem me_size (v:Value) (w:World):(method 554 86 v "Size").run Tryz.prog w=.ok (372,v) w:=by
 obtain ⟨m,hm,hp,hf⟩:=me_finds "Size" 372 (by kernel_rfl)
 unfold method
 simp [follow,receiverAt,Place.get,hm,hp,hf]
theorem me_channels (v:Value) (w:World):(method 554 86 v "Channels").run Tryz.prog w=.ok (369,v) w:=by
 obtain ⟨m,hm,hp,hf⟩:=me_finds "Channels" 369 (by kernel_rfl)
 unfold method
 simp [follow,receiverAt,Place.get,hm,hp,hf]
theorem me_read (v:Value) (w:World):(method 554 86 v "Read").run Tryz.prog w=.ok (371,v) w:=by
 obtain ⟨m,hm,hp,hf⟩:=me_finds "Read" 371 (by kernel_rfl)
 unfold method
 simp [follow,receiverAt,Place.get,hm,hp,hf]
end Go.Proofs.YtjbelhpgbcnlmaaGreat
end
section
set_option linter.unusedVariables false
namespace Go.Proofs.YtjbelhpgbcnlmaaGreat
def vd:List Int→Int
 | []=>0
 | d::l=>d+32768*vd l
def okd (l:List Int):Prop:=∀ d∈l,0≤d∧d≤32767
def Norm (l:List Int):Prop:=okd l∧∀ d,l.getLast?=some d→d≠0
def Bp:Nat→Int
 | 0=>1
 | n+1=>32768*Bp n
theorem Bp_pos (n:Nat):1≤Bp n:=by
 induction n with
 | zero=>simp [Bp]
 | succ n ih=>rw [Bp];omega
theorem Bp_add (m n:Nat):Bp (m+n)=Bp m*Bp n:=by
 induction m with
 | zero=>simp [Bp]
 | succ m ih=>rw [Nat.succ_add,Bp,Bp,ih,Int.mul_assoc]
theorem Bp_mono {m n:Nat} (h:m≤n):Bp m≤Bp n:=by
 obtain ⟨k,rfl⟩:=Nat.exists_eq_add_of_le h
 rw [Bp_add]
 have h1:=Bp_pos m
 have h2:=Bp_pos k
 have:=Int.mul_le_mul_of_nonneg_left h2 (by omega:0≤Bp m)
 omega
theorem okd_nil:okd []:=fun d h=>by cases h
theorem okd_cons {d:Int} {l:List Int}:okd (d::l) ↔ (0≤d∧d≤32767)∧okd l:=by simp [okd]
theorem okd_append {l m:List Int}:okd (l++m) ↔ okd l∧okd m:=by
 simp only [okd,List.mem_append]
 exact ⟨fun h=>⟨fun d hd=>h d (.inl hd),fun d hd=>h d (.inr hd)⟩,fun h d hd=>hd.elim (h.1 d) (h.2 d)⟩
theorem okd_take {l:List Int} (h:okd l) (n:Nat):okd (l.take n):=fun d hd=>h d (List.mem_of_mem_take hd)
theorem okd_drop {l:List Int} (h:okd l) (n:Nat):okd (l.drop n):=fun d hd=>h d (List.mem_of_mem_drop hd)
theorem vd_nonneg {l:List Int} (h:okd l):0≤vd l:=by
 induction l with
 | nil=>simp [vd]
 | cons d l ih=>rw [okd_cons] at h;rw [vd];have:=ih h.2;omega
theorem vd_lt {l:List Int} (h:okd l):vd l<Bp l.length:=by
 induction l with
 | nil=>simp [vd,Bp]
 | cons d l ih=>rw [okd_cons] at h;rw [vd,List.length_cons,Bp];have:=ih h.2;omega
theorem vd_append (l m:List Int):vd (l++m)=vd l+Bp l.length*vd m:=by
 induction l with
 | nil=>simp [vd,Bp]
 | cons d l ih=>rw [List.cons_append,vd,vd,ih,List.length_cons,Bp,Int.mul_add,Int.mul_assoc];omega
theorem vd_snoc (l:List Int) (d:Int):vd (l++[d])=vd l+Bp l.length*d:=by rw [vd_append];simp [vd]
theorem vd_zeros (n:Nat):vd (List.replicate n 0)=0:=by
 induction n with
 | zero=>rfl
 | succ n ih=>rw [List.replicate_succ,vd,ih];rfl
def tr (l:List Int):List Int:=(l.reverse.dropWhile (· == 0)).reverse
theorem tr_snoc (l:List Int) (d:Int):tr (l++[d])=if d=0 then tr l else l++[d]:=by
 unfold tr
 rw [List.reverse_append]
 simp only [List.reverse_cons,List.reverse_nil,List.nil_append,List.cons_append,List.dropWhile_cons]
 by_cases h:d=0
 ·simp [h]
 ·simp [h]
theorem list_snoc {α:Type} (l:List α) (h:l≠[]):∃ m d,l=m++[d]:=⟨l.dropLast,l.getLast h,(List.dropLast_concat_getLast h).symm⟩
theorem snoc_ind {α:Type} {P:List α→Prop} (h0:P []) (h1:∀ l d,P l→P (l++[d])):∀ (n:Nat) (l:List α),l.length=n→P l:=by
 intro n
 induction n with
 | zero=>intro l hl;rw [List.eq_nil_of_length_eq_zero hl];exact h0
 | succ n ih =>
   intro l hl
   obtain ⟨m,d,rfl⟩:=list_snoc l (by rintro rfl;simp at hl)
   exact h1 m d (ih m (by simpa using hl))
theorem tr_vd (l:List Int):vd (tr l)=vd l:=by
 refine snoc_ind (P:=fun l=>vd (tr l)=vd l) rfl (fun l d ih=>?_) _ l rfl
 rw [tr_snoc]
 split
 ·rename_i h;subst h;rw [vd_snoc,ih];omega
 ·rfl
theorem tr_le (l:List Int):(tr l).length≤l.length:=by
 refine snoc_ind (P:=fun l=>(tr l).length≤l.length) (by simp [tr]) (fun l d ih=>?_) _ l rfl
 rw [tr_snoc]
 split
 ·simp;omega
 ·simp
theorem tr_take (l:List Int):tr l=l.take (tr l).length:=by
 refine snoc_ind (P:=fun l=>tr l=l.take (tr l).length) (by simp [tr]) (fun l d ih=>?_) _ l rfl
 rw [tr_snoc]
 split
 ·rw [List.take_append_of_le_length (tr_le l)];exact ih
 ·rw [List.take_length]
theorem tr_norm {l:List Int} (h:okd l):Norm (tr l):=by
 refine ⟨by rw [tr_take];exact okd_take h _,?_⟩
 refine snoc_ind (P:=fun l=>∀ d,(tr l).getLast?=some d→d≠0) (by simp [tr]) (fun l d ih=>?_) _ l rfl
 rw [tr_snoc]
 split
 ·exact ih
 ·rename_i hd;intro e he;simp at he;subst he;exact hd
theorem tr_step (l:List Int) (k:Nat) (hk:k<l.length):tr (l.take (k+1))=if l[k]=0 then tr (l.take k) else l.take (k+1):=by
 rw [List.take_succ_eq_append_getElem hk,tr_snoc]
theorem norm_nil:Norm []:=⟨okd_nil,by simp⟩
theorem norm_pos {l:List Int} (h:Norm l) (hl:l≠[]):Bp (l.length-1)≤vd l:=by
 obtain ⟨m,d,rfl⟩:=list_snoc l hl
 have hd:=h.2 d (by simp)
 have hok:=okd_append.1 h.1
 have h1:=vd_nonneg hok.1
 have h2:=hok.2 d (by simp)
 rw [vd_snoc]
 simp only [List.length_append,List.length_cons,List.length_nil,Nat.zero_add,Nat.add_sub_cancel]
 have h3:=Bp_pos m.length
 have:=Int.mul_le_mul_of_nonneg_left (show 1≤d by omega) (by omega:0≤Bp m.length)
 omega
theorem norm_len {l:List Int} (h:Norm l) {n:Nat} (hv:vd l<Bp n):l.length≤n:=by
 by_cases hl:l=[]
 ·subst hl;simp
 ·have h1:=norm_pos h hl
  rcases Nat.lt_or_ge n l.length with h2|h2
  ·exfalso
   have:=Bp_mono (show n≤l.length-1 by omega)
   omega
  ·exact h2
theorem norm_zero {l:List Int} (h:Norm l):l=[] ↔ vd l=0:=by
 constructor
 ·rintro rfl;rfl
 ·intro hv
  by_cases hl:l=[]
  ·exact hl
  ·have:=norm_pos h hl;have:=Bp_pos (l.length-1);omega
theorem tr_self {l:List Int} (h:Norm l):tr l=l:=by
 by_cases hl:l=[]
 ·subst hl;rfl
 ·obtain ⟨m,d,rfl⟩:=list_snoc l hl
  rw [tr_snoc,if_neg (h.2 d (by simp))]
def dgt (l:List Int) (i:Nat):Int:=l[i]?.getD 0
theorem dgt_ok {l:List Int} (h:okd l) (i:Nat):0≤dgt l i∧dgt l i≤32767:=by
 unfold dgt
 by_cases hi:i<l.length
 ·rw [List.getElem?_eq_getElem hi];exact h _ (List.getElem_mem _)
 ·rw [List.getElem?_eq_none (by omega)];simp
theorem vd_take_succ (l:List Int) (k:Nat):vd (l.take (k+1))=vd (l.take k)+Bp k*dgt l k:=by
 by_cases hk:k<l.length
 ·rw [List.take_succ_eq_append_getElem hk,vd_snoc]
  simp only [List.length_take,dgt,List.getElem?_eq_getElem hk,Option.getD_some]
  rw [Nat.min_eq_left (by omega)]
 ·rw [List.take_of_length_le (by omega),List.take_of_length_le (by omega)]
  simp [dgt,List.getElem?_eq_none (by omega:l.length≤k)]
theorem vd_drop (l:List Int) (k:Nat):vd (l.drop k)=dgt l k+32768*vd (l.drop (k+1)):=by
 by_cases hk:k<l.length
 ·rw [List.drop_eq_getElem_cons hk,vd];simp [dgt,List.getElem?_eq_getElem hk]
 ·rw [List.drop_eq_nil_of_le (by omega),List.drop_eq_nil_of_le (by omega)]
  simp [dgt,List.getElem?_eq_none (by omega:l.length≤k),vd]
theorem vd_split (l:List Int) (k:Nat) (hk:k≤l.length):vd l=vd (l.take k)+Bp k*vd (l.drop k):=by
 conv=>lhs;rw [← List.take_append_drop k l]
 rw [vd_append];simp [Nat.min_eq_left hk]
theorem vd_set (l:List Int) (k:Nat) (x:Int) (hk:k<l.length):vd (l.set k x)=vd l+Bp k*(x-dgt l k):=by
 induction l generalizing k with
 | nil=>simp at hk
 | cons d l ih =>
   cases k with
   | zero=>simp [vd,Bp,dgt];omega
   | succ k =>
     simp only [List.set_cons_succ,vd,Bp]
     rw [ih k (by simpa using hk)]
     have:dgt (d::l) (k+1)=dgt l k:=by simp [dgt]
     rw [this,Int.mul_add,Int.mul_assoc];omega
theorem okd_set {l:List Int} (h:okd l) (k:Nat) (x:Int) (hx:0≤x∧x≤32767):okd (l.set k x):=by
 intro d hd
 rcases List.mem_or_eq_of_mem_set hd with h1|h1
 ·exact h d h1
 ·subst h1;exact hx
theorem dgt_set (l:List Int) (k j:Nat) (x:Int) (hk:k<l.length):dgt (l.set k x) j=if j=k then x else dgt l j:=by
 unfold dgt
 rw [List.getElem?_set]
 by_cases h:k=j
 ·subst h;simp [hk]
 ·rw [if_neg h,if_neg (fun e=>h e.symm)]
theorem Bp4:Bp 4=1152921504606846976:=by decide
theorem Bp5:Bp 5=37778931862957161709568:=by decide
theorem Bp20:Bp 20=2037035976334486086268445688409378161051468393665936250636140449354381299763336706183397376:=by decide
theorem Bp40:Bp 40=4149515568880992958512407863691161151012446232242436899995657329690652811412908146399707048947103794288197886611300789182395151075411775307886874834113963687061181803401509523685376:=by decide
theorem Bp39s:Bp 40=32768*Bp 39:=rfl
theorem Bp38s:Bp 39=32768*Bp 38:=rfl
theorem Bp1s (n:Nat):Bp (n+1)=32768*Bp n:=rfl
theorem Bp0s:Bp 0=1:=rfl
attribute [irreducible] Bp
end Go.Proofs.YtjbelhpgbcnlmaaGreat
end
section
set_option linter.unusedVariables false
namespace Go.Proofs.YtjbelhpgbcnlmaaGreat
open Go.RowKit
theorem big_size:(Tryz.prog.info? 166).map (·.size)=some 2:=by kernel_rfl
@[go_sem] theorem field_big0 (s:Bool) (A:Option Addr) (n c:Nat) (w:World):(Instr.field 166 (.agg #[.bool s,.slice A n c]) 0).run Tryz.prog w=.ok (.bool s) w :=
  run_field1 (P:=Tryz.prog) (T:=166) (i:=0) Tryz.underlying166 rfl Tryz.underlying4 rfl #[.bool s,.slice A n c] (.bool s) rfl w
@[go_sem] theorem field_big1 (s:Bool) (A:Option Addr) (n c:Nat) (w:World):(Instr.field 166 (.agg #[.bool s,.slice A n c]) 1).run Tryz.prog w=.ok (.slice A n c) w :=
  run_field1 (P:=Tryz.prog) (T:=166) (i:=1) Tryz.underlying166 rfl Tryz.underlying120 rfl #[.bool s,.slice A n c] (.slice A n c) rfl w
theorem stBig {ops:Array Oper} {rest:List Oper} {o:Oper} {a:Act} {w:World} {Q:Exit→Act→World→Prop} (hgd:o.guard=none) (x y:Operand) (ho:o.op=.store 166 x y)
 {g:Nat} {old:Array Value} (hK:Bk w g 166 old) (hold:old.size=2) {s:Bool} {A:Option Addr} {n c:Nat} (hx:a.eval x=.pointer (some ⟨g,0,none⟩)) (hy:a.eval y=.agg #[.bool s,.slice A n c])
 (h:∀ w',Bk w' g 166 #[.bool s,.slice A n c]→w.grownBy w' (some g)→w'.heap.size=w.heap.size→wpList Tryz.prog ops Q rest (a.put o.dst undef) w'):wpList Tryz.prog ops Q (o::rest) a w :=
 stB hgd _ x y ho hK _ hx hy big_size (by simpa using hold) (by simp [Value.oneCell']) h
theorem ldBig {ops:Array Oper} {rest:List Oper} {o:Oper} {a:Act} {w:World} {Q:Exit→Act→World→Prop} (hgd:o.guard=none) (x:Operand) (ho:o.op=.load 166 x)
 {g:Nat} {s:Bool} {A:Option Addr} {n c:Nat} (hK:Bk w g 166 #[.bool s,.slice A n c]) (hx:a.eval x=.pointer (some ⟨g,0,none⟩))
 (h:wpList Tryz.prog ops Q rest (a.put o.dst (.agg #[.bool s,.slice A n c])) w):wpList Tryz.prog ops Q (o::rest) a w :=
 ldB hgd _ x ho hK hx Tryz.underlying166 rfl big_size h
theorem res_big {fn:Func} {p:Tmp} (h:fn.results=#[.cell p 166]) {tmps:Array Value} {w:World} {g:Nat} {s:Bool} {A:Option Addr} {n c:Nat} (hK:Bk w g 166 #[.bool s,.slice A n c])
 (hp:tmps.getD p undef=.pointer (some ⟨g,0,none⟩)):(results fn tmps).run Tryz.prog w=.ok (.agg #[.bool s,.slice A n c]) w :=
 res_cell h hK hp Tryz.underlying166 rfl big_size
end Go.Proofs.YtjbelhpgbcnlmaaGreat
end
