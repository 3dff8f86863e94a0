/- Several texts in one: The sources' images: clones of bytes, what is wrong with several images, Of. Images of one's own, in a row of one's own; what is wrong with several. sample.Of. sample: images as a source: Levels, Channels, Size, Read. Kernels: their table, names and reaches. sample: what is wrong with a kernel; New; the reference's checks, places, bytes; the law's small ones. -/
import Derived.Test.YtjbelhpgbcnlmaaGreatSamplePixelsZz2
import Derived.Laws.Cover3
import Derived.Deep.QuietTactic
import Derived.BigQuiet
import Derived.Deep.Cut
import Derived.Deep.CutBlock
import Derived.Test.YtjbelhpgbcnlmaaGreatSamplePixelsZz1
section
set_option linter.unusedVariables false
namespace Go.Proofs.YtjbelhpgbcnlmaaGreat
open Go.RowKit
set_option maxHeartbeats 1000000 in
theorem icheck_any (W H C:Int) (A:Option Addr) (n c:Nat) (w:World) :
 Calls Tryz.prog 40 #[.agg #[.int .i64 W,.int .i64 H,.int .i64 C,.slice A n c]] w fun e w'=>e=.returned (.int .i64 (checkC W H C n))∧Below w.heap.size w w':=by
 by_cases hf:fitsC W H C=0
 ·obtain ⟨hc,hw1,hw2,hh1,hh2,hp⟩:=fitsC_ok hf
  have hp0:=mul_bd W H (by omega) (by omega) hw2 hh2
  have hp3:=mul3_bd W H C (by omega) hp (by omega) (by omega)
  by_cases hn:(n:Int)=W*H*C
  all_goals
   have hfb:(fitsC W H C != 0)=false:=by simpa using hf
   have HF:=Lib.hid hf
   clear hf hc
   go_enter Tryz.func40,Tryz.ntmps40
   go_wp2_with (go_at_call 80;refine (fits_any _ _ _ _).mono ?_;rintro e w' ⟨rfl,rfl⟩)
   go_returns
   exact ⟨ret_int (by unfold checkC;rw [HF.out];first | (rw [if_pos ⟨rfl,by assumption⟩])|(rw [if_neg (by omega)])),by go_grown⟩
 ·have hfb:(fitsC W H C != 0)=true:=by simpa using hf
  have HF:=Lib.hid hf
  clear hf
  go_enter Tryz.func40,Tryz.ntmps40
  go_wp2_with (go_at_call 80;refine (fits_any _ _ _ _).mono ?_;rintro e w' ⟨rfl,rfl⟩)
  go_returns
  exact ⟨ret_int (by unfold checkC;rw [if_neg (fun h=>HF.out h.1)]),by go_grown⟩
theorem eql_u8s (a:Addr) (n cp:Nat) (w:World):(binOp .eql 22 (.slice (some a) n cp) (.slice none 0 0)).run Tryz.prog w=.ok (.bool false) w:=by
 unfold binOp
 simp [run_equal_slice_nil w 22 5 _ _ _ Tryz.underlying22]
theorem eql_u8n (n cp:Nat) (w:World):(binOp .eql 22 (.slice none n cp) (.slice none 0 0)).run Tryz.prog w=.ok (.bool true) w:=by
 unfold binOp
 simp [run_equal_slice_nil w 22 5 _ _ _ Tryz.underlying22]
def OwnU (L:List Int) (w:World) (e:Ending) (w':World):Prop:=∃ v,e=.returned v∧w'.ownsRow w.heap.size 5 1 v L.length (L.map (Value.int .u8))∧Below w.heap.size w w'
set_option maxRecDepth 100000 in
set_option maxHeartbeats 4000000 in
theorem cloneu_some (l:List Int) (a:Addr) (n cp:Nat) (w:World) {B:Nat} (hl:l.length=n) (hn:n≤1000000000) (hr:Rd w B (some a) (l.map (Value.int .u8))) (hB:B≤w.heap.size) :
 Calls Tryz.prog 41 #[.slice (some a) n cp] w (OwnU l w):=by
 have hb0:=(Below.refl w.heap.size w).alloc (Nat.le_refl _) (.cells #[] 5)
 have hown0:(w.alloc (.cells #[] 5)).ownsRow w.heap.size 5 1 (.slice (some ⟨w.heap.size,0,none⟩) 0 0) 0 []:=by
  simpa using own_of_Bk (base:=w.heap.size) (Bk.new w 5 #[]) 0 rfl (by omega) (Nat.le_refl _)
 have hr1:=hr.alloc hB (.cells #[] 5)
 have HLn:=Lib.hid hl
 have hq:=eql_u8s a n cp
 clear hl
 go_enter Tryz.func41,Tryz.ntmps41
 go_wp2_with (at_builtin;refine appR rfl _ _ _ rfl Tryz.underlying22 u8_info rfl (by omega) rfl rfl hown0 hb0 (Nat.le_refl _) (by simp) hr1 (by simp [HLn.out]) (intsL l) (by omega) (by omega) ?_;intro v1 w1 hown1 hb1 _ _ _)
 go_returns
 rw [Nat.zero_add,List.nil_append] at hown1
 exact ⟨_,rfl,by rw [HLn.out];exact hown1,hb1⟩
theorem cloneu_none (n cp:Nat) (w:World):Calls Tryz.prog 41 #[.slice none n cp] w fun e w'=>e=.returned (.slice none 0 0)∧w=w':=by
 have hq:=eql_u8n n cp
 go_enter Tryz.func41,Tryz.ntmps41
 go_wp2_with fail
 go_returns
 exact ⟨rfl,rfl⟩
theorem cloneu_any (l:List Int) (A:Option Addr) (n cp:Nat) (w:World) {B:Nat} (hl:l.length=n) (hn:n≤1000000000) (hr:Rd w B A (l.map (Value.int .u8))) (hB:B≤w.heap.size) :
 Calls Tryz.prog 41 #[.slice A n cp] w (OwnU l w):=by
 cases A with
 | none =>
   have h0:l=[]:=by
    cases l with
    | nil=>rfl
    | cons a r=>obtain ⟨b,o,e,_⟩:=hr.get 0 (by simp);cases e
   subst h0
   refine (cloneu_none n cp w).mono ?_
   rintro e w' ⟨rfl,rfl⟩
   exact ⟨_,rfl,World.ownsRow_nil _ _ _ _,Below.refl _ _⟩
 | some a=>exact cloneu_some l a n cp w hl hn hr hB
end Go.Proofs.YtjbelhpgbcnlmaaGreat
end
section
set_option linter.unusedVariables false
namespace Go.Proofs.YtjbelhpgbcnlmaaGreat
open Go.RowKit
def imsC (C0:Int):List Im→Int
 | []=>0
 | m::r=>if checkC m.W m.H m.C m.px.length≠0 then checkC m.W m.H m.C m.px.length else if m.C≠C0 then 10 else imsC C0 r
def imagesC:List Im→Int
 | []=>60
 | m::r=>imsC m.C (m::r)
def im0 (ims:List Im):Im:=ims.headD ⟨0,0,0,[]⟩
theorem imagesC_eq {ims:List Im} (h:ims≠[]):imagesC ims=imsC (im0 ims).C ims:=by
 cases ims with
 | nil=>exact absurd rfl h
 | cons m r=>rfl
theorem imsC_step {C0:Int} {ims:List Im} {k:Nat} (hk:k<ims.length):imsC C0 (ims.drop k)=if checkC ims[k].W ims[k].H ims[k].C ims[k].px.length≠0 then checkC ims[k].W ims[k].H ims[k].C ims[k].px.length else if ims[k].C≠C0 then 10 else imsC C0 (ims.drop (k+1)):=by
 rw [List.drop_eq_getElem_cons hk];rfl
theorem imsC_all {C0:Int}:∀ {ims:List Im},imsC C0 ims=0→∀ m∈ims,checkC m.W m.H m.C m.px.length=0∧m.C=C0
 | [],_,m,hm=>by cases hm
 | a::r,h,m,hm=>by
   unfold imsC at h
   split at h
   ·exact absurd h ‹_›
   ·rename_i h1
    split at h
    ·cases h
    ·rename_i h2
     rcases List.mem_cons.1 hm with rfl|hm
     ·exact ⟨by omega,by omega⟩
     ·exact imsC_all h m hm
theorem own_gbr {w w':World} {base:Nat} {e:TypeId} {size n:Nat} {v:Value} {xs:List Value} {row:Option Nat} (h:w.ownsRow base e size v n xs) (hg:w.grownBy w' row) (hne:∀ b,v.ownBlock=some b→some b≠row):w'.ownsRow base e size v n xs:=by
 refine ⟨h.1,?_⟩
 rcases h.2 with h2|⟨g,cap,cur,hv,hg2,hh,r⟩
 ·exact .inl h2
 ·exact .inr ⟨g,cap,cur,hv,hg2,by rw [hg.block g (Bk.lt hh) (hne g (by rw [hv];rfl))];exact hh,r⟩
theorem app1o {P:Program} {ops:Array Oper} {rest:List Oper} {o:Oper} {a:Act} {Q:Exit→Act→World→Prop} (hgd:o.guard=none) (s x:Operand) (t:TypeId)
 (ho:o.op=.call { callee:=.builtin .append,args:=#[s,x],argTypes:=#[t,t] })
 {e:TypeId} {z:Value} {size bytes:Nat} (ht:P.underlying t=some (.slice e)) (hi:(P.info? e).map (fun i=>(i.zero,i.size,i.bytes))=some (some z,size,bytes)) (hzs:z.cells.size=size) (hsz:0<size)
 {w W:World} {B base n:Nat} {v:Value} {xs:List Value} {cs:Array Value} (hown:w.ownsRow base e size v n xs) (hs:a.eval s=v) (hx:a.eval x=.slice (some ⟨w.heap.size,0,none⟩) 1 1)
 (hbel:Below B W w) (hB:B≤base) (hbase:base≤w.heap.size) (hcs:cs.size=size) (h1:∀ u∈cs.toList,u.oneCell'=true)
 (hbytes:(n+1)*bytes≤140737488355328) (h63:n+1≤9223372036854775807)
 (h:∀ v' w',w'.ownsRow base e size v' (n+1) (xs++cs.toList)→Below B W w'→w.heap.size<w'.heap.size→w.grownBy w' v.ownBlock→(v'.ownBlock=v.ownBlock∨v'.ownBlock=some (w.heap.size+1))→wpList P ops Q rest (a.put o.dst v') w') :
 wpList P ops Q (o::rest) a (w.alloc (.cells cs e)):=app1 hgd s x t ho ht hi hzs hsz hs hx hown hbel hB hbase hcs h1 hbytes h63 h
theorem own_ne {w:World} {b1 b2 s1 s2 n1 n2:Nat} {e1 e2:TypeId} {v1 v2:Value} {xs1 xs2:List Value} (h1:w.ownsRow b1 e1 s1 v1 n1 xs1) (h2:w.ownsRow b2 e2 s2 v2 n2 xs2) (hne:e1≠e2):∀ b,v1.ownBlock=some b→some b≠v2.ownBlock:=by
 intro b hb e
 rcases h1.2 with ⟨e0,_⟩|⟨g,cap,cur,hv,_,hh,_⟩
 ·rw [e0] at hb;cases hb
 ·rw [hv] at hb
  have hg:g=b:=by simpa [Value.ownBlock] using hb
  subst hg
  exact Bk.ne_own (show Bk w g e1 cur from hh) h2 hne g e.symm rfl
def ImOwn (w:World) (lo:Nat) (cs:List Value) (m:Im):Prop:=∃ s:Value,cs=[.int .i64 m.W,.int .i64 m.H,.int .i64 m.C,s]∧w.ownsRow lo 5 1 s m.px.length (m.px.map (Value.int .u8))
def ImsOwn (w:World) (lo:Nat) (v:Value) (ims:List Im):Prop:=∃ xs:List (List Value),w.ownsRow lo 24 4 v ims.length xs.flatten∧xs.length=ims.length∧∀ (i:Nat) (h:i<ims.length) (h':i<xs.length),ImOwn w lo xs[i] ims[i]
section
variable {w w':World} {lo:Nat} {v:Value} {ims:List Im} {m:Im} {cs:List Value}
theorem ImsOwn.nx (h:ImsOwn w lo v ims) (hb:Below w.heap.size w w'):ImsOwn w' lo v ims:=by
 obtain ⟨xs,h1,h2,h3⟩:=h
 exact ⟨xs,own_below h1 hb (Nat.le_refl _),h2,fun i a b=>by obtain ⟨s,e,ho⟩:=h3 i a b;exact ⟨s,e,own_below ho hb (Nat.le_refl _)⟩⟩
theorem ImsOwn.nil (w:World) (lo:Nat):ImsOwn w lo (.slice none 0 0) []:=⟨[],World.ownsRow_nil _ _ _ _,rfl,fun i h _=>absurd h (by simp)⟩
theorem ImOwn.at (h:ImOwn w lo cs m):ImAt w lo cs m:=by
 obtain ⟨s,e,ho⟩:=h
 obtain ⟨A,c,rfl,hc,_⟩:=own_form ho
 exact ⟨A,c,e,hc,RdL.of_own ho⟩
theorem ImsOwn.form (h:ImsOwn w lo v ims):∃ A c,v=.slice A ims.length c∧ims.length≤c∧c≤maxLen∧ImsAt w lo A ims:=by
 obtain ⟨xs,h1,h2,h3⟩:=h
 obtain ⟨A,c,rfl,hc,hm,_⟩:=own_form h1
 exact ⟨A,c,rfl,hc,hm,xs,RdL.of_own h1,h2,fun i a b=>(h3 i a b).at⟩
theorem ImsOwn.snoc {v' s:Value} {xs:List (List Value)} (h1:w.ownsRow lo 24 4 v ims.length xs.flatten) (h2:xs.length=ims.length) (h3:∀ (i:Nat) (h:i<ims.length) (h':i<xs.length),ImOwn w lo xs[i] ims[i])
 (ho:w.ownsRow lo 5 1 s m.px.length (m.px.map (Value.int .u8))) (hg:w.grownBy w' v.ownBlock)
 (hv:w'.ownsRow lo 24 4 v' (ims.length+1) (xs.flatten++[.int .i64 m.W,.int .i64 m.H,.int .i64 m.C,s])):ImsOwn w' lo v' (ims++[m]):=by
 refine ⟨xs++[[.int .i64 m.W,.int .i64 m.H,.int .i64 m.C,s]],?_,by simp [h2],?_⟩
 ·simpa using hv
 ·intro i hi hi'
  by_cases hlt:i<ims.length
  ·obtain ⟨s',e,ho'⟩:=h3 i hlt (by omega)
   refine ⟨s',?_,?_⟩
   ·rw [List.getElem_append_left (by omega),List.getElem_append_left hlt];exact e
   ·rw [List.getElem_append_left hlt]
    exact own_gbr ho' hg (own_ne ho' h1 (by decide))
  ·have hil:i=ims.length:=by simp at hi;omega
   subst hil
   refine ⟨s,?_,?_⟩
   ·rw [List.getElem_append_right (by omega),List.getElem_append_right (Nat.le_refl _)];simp [h2]
   ·rw [List.getElem_append_right (Nat.le_refl _)];simp
    exact own_gbr ho hg (own_ne ho h1 (by decide))
end
end Go.Proofs.YtjbelhpgbcnlmaaGreat
end
section
set_option linter.unusedVariables false
namespace Go.Proofs.YtjbelhpgbcnlmaaGreat
open Go.RowKit
theorem img_info:(Tryz.prog.info? 24).map (fun i=>(i.zero,i.size,i.bytes))=some (some (.agg #[.int .i64 0,.int .i64 0,.int .i64 0,.slice none 0 0]),4,48):=by kernel_rfl
def OfP (ims:List Im) (w:World) (e:Ending) (w':World):Prop:=Below w.heap.size w w'∧((imagesC ims≠0∧e=.returned (.tuple #[.nilIface,.int .i64 (imagesC ims)]))∨(imagesC ims=0∧∃ v,e=.returned (.tuple #[.iface 86 v,.int .i64 0])∧ImsOwn w' w.heap.size v ims))
set_option maxRecDepth 100000 in
set_option maxHeartbeats 8000000 in
theorem of_ims (ims:List Im) (A:Option Addr) (n c lo:Nat) (w:World) (hn:ims.length=n) (hA:ImsAt w lo A ims) (hb:n≤100000) (hpx:∀ m∈ims,m.px.length≤1000000000) :
 Calls Tryz.prog 12 #[.slice A n c] w (OfP ims w):=by
 rcases Nat.eq_zero_or_pos n with h0|h0
 ·subst h0
  obtain rfl:ims=[]:=List.eq_nil_of_length_eq_zero hn
  go_enter Tryz.func12,Tryz.ntmps12
  go_wp2_with fail
  go_returns
  exact ⟨Below.refl _ _,.inl ⟨by decide,rfl⟩⟩
 ·have hne:ims≠[]:=by intro e;rw [e] at hn;simp at hn;omega
  have hI:=imagesC_eq hne
  have hC0:(im0 ims).C=ims[0].C:=by
   cases ims with
   | nil=>exact absurd rfl hne
   | cons a r=>rfl
  obtain ⟨b,o,A0,c0,rfl,_,hbw,_,_,hz2,_⟩:=hA.get 0 (by omega)
  rw [← hC0,show o+0*4+2=o+2 by omega] at hz2
  clear hC0
  generalize hCC:(im0 ims).C=C0 at *
  have HI:=Lib.hid hI
  clear hI hCC hne
  have hnb:((n:Int)==0)=false:=by simp;omega
  have hn0:(0:Int)<(n:Int):=by omega
  go_enter Tryz.func12,Tryz.ntmps12
  go_wp2_with fail
  go_loopw [4,13] (fun v i wr=>∃ k:Nat,k≤n∧i=.int .i64 k∧ImsOwn wr w.heap.size v (ims.take k)∧Below w.heap.size w wr∧imsC C0 ims=imsC C0 (ims.drop k)) (fun _ i _=>n-(intOf i).toNat)
  case atStart=>exact ⟨0,by omega,rfl,by simpa using ImsOwn.nil w w.heap.size,Below.refl _ _,by simp⟩
  case round =>
   obtain ⟨k,hk,rfl,hown,hbel,hdr⟩:=hrel
   have HD:=Lib.hid hdr
   clear hdr hnb
   by_cases hlt:k<n
   ·have hk2:k<ims.length:=by omega
    have HS:=Lib.hid (imsC_step (C0:=C0) hk2)
    obtain ⟨b',o',Ai,ci,e',_,_,q0,q1,q2,q3,hci,hri⟩:=(hA.nx hbel (Nat.le_refl _)).get k hk2
    injection e' with e';injection e' with e1 e2
    subst e1;subst e2
    have hz2':=(hbel.cell (p:=⟨b,o+2,none⟩) hbw).trans hz2
    have hpl:=hpx ims[k] (List.getElem_mem hk2)
    have HT:=Lib.hid (List.take_succ_eq_append_getElem hk2)
    generalize ims[k]=m at *
    have hlt4:(ims.take k).length=k:=by simp;omega
    have HL4:=Lib.hid hlt4
    clear hlt4
    have hbw2:=hbel.size
    have hIC:=fun w=>icheck_any m.W m.H m.C Ai m.px.length ci w
    generalize checkC m.W m.H m.C m.px.length=ck at *
    go_upto_region 7 with fail
    have hb1:Below wr.heap.size wr (wr.alloc (.cells #[.int .i64 m.W,.int .i64 m.H,.int .i64 m.C,.slice Ai m.px.length ci] 24)):=(Below.refl _ _).alloc (Nat.le_refl _) _
    have kq:=Bk.new wr 24 #[.int .i64 m.W,.int .i64 m.H,.int .i64 m.C,.slice Ai m.px.length ci]
    generalize wr.alloc (.cells #[.int .i64 m.W,.int .i64 m.H,.int .i64 m.C,.slice Ai m.px.length ci] 24)=w1 at *
    obtain ⟨d0,d1,d2,d3⟩:=kq.cell4
    clear q0 q1 q2 q3
    by_cases hck:ck=0
    ·have hcb:(ck != 0)=false:=by simpa using hck
     have HCK:=Lib.hid hck
     clear hck
     go_upto_region 10 with (go_at_call 40;(with_reducible refine (hIC _).mono ?_);rintro e w2 ⟨rfl,hb2⟩)
     have hb3:=hb1.trans (hb2.mono hb1.size)
     have kq2:=kq.nx hb2
     obtain ⟨d0,d1,d2,d3⟩:=kq2.cell4
     have hz3:=(hb3.cell (p:=⟨b,o+2,none⟩) (Nat.lt_of_lt_of_le hbw hbw2)).trans hz2'
     have hqlt:=kq2.lt
     clear hIC hb1 hb2 hz2' kq
     by_cases hcc:m.C=C0
     ·have hcd:(m.C != C0)=false:=by simpa using hcc
      have HCC:=Lib.hid hcc
      clear hcc
      have hr2:Rd w2 w2.heap.size Ai (m.px.map (Value.int .u8)):=(hri.below hb3 (Nat.le_refl _)).rd
      have hCl:=fun nq=>cloneu_any m.px Ai m.px.length ci (w2.drewN nq) rfl hpl (hr2.drewN nq) (Nat.le_refl _)
      have hno:=hown.nx hb3
      clear hri hr2
      go_quiet ((fail))
      go_upto_region 13 with (go_at_call 41;(with_reducible refine (hCl _).mono ?_);rintro e w4 ⟨s4,rfl,ho4,hb4⟩;obtain ⟨A4,c4,rfl,_⟩:=own_form ho4;have kq4:=(kq2.drewN nq).nx hb4;obtain ⟨d40,d41,d42,d43⟩:=kq4.cell4;have f4:=kq4.frozen 3)
      have hz4:=hb4.size
      have hsz:(w2.drewN nq).heap.size=w2.heap.size:=rfl
      have ho5:=own_far ho4 ⟨wr.heap.size,3,none⟩ (.slice A4 m.px.length c4) (fun g hg=>by have:=(ho4.lt g hg).1;show g≠wr.heap.size;intro e;omega)
      have kq5:=kq4.set 3 (.slice A4 m.px.length c4)
      have hno4:=(hno.nx (below_drewN (Below.refl _ _) nq)).nx hb4
      have hb5:Below wr.heap.size wr (w4.setCell ⟨wr.heap.size,3,none⟩ (.slice A4 m.px.length c4)):=((below_drewN hb3 nq).trans (hb4.mono (by omega))).setCell (by simp) _
      have hno5:=hown.nx hb5
      have hs5:wr.heap.size<(w4.setCell ⟨wr.heap.size,3,none⟩ (.slice A4 m.px.length c4)).heap.size:=by simp [World.setCell];omega
      have HSZ:=Lib.hid hsz
      clear hsz d0 d1 d2 d3 d40 d41 d42 d43 f4 hno4 ho4 hb4 hb3 kq2 kq4 hz3 hno hz4 hCl
      generalize w4.setCell ⟨wr.heap.size,3,none⟩ (.slice A4 m.px.length c4)=w5 at *
      obtain ⟨d0,d1,d2,d3⟩:=kq5.cell4
      have hb6:=hbel.trans (hb5.mono hbw2)
      have hb6s:=hb6.size
      obtain ⟨xs5,hx50,hx51,hx52⟩:=hno5
      have hx5:=hx50
      rw [HL4.out] at hx5
      go_wp2_with (at_builtin;go_loud (refine app1o rfl _ _ _ rfl Tryz.underlying86 img_info rfl (by omega) hx5 rfl rfl hb6 (Nat.le_refl _) hb6s rfl (by simp [Value.oneCell']) (by omega) (by omega) ?_);intro v' w7 ho7 hb7 hs7 hg7 _)
      have hok:imsC C0 ims=imsC C0 (ims.drop (k+1)):=by rw [HD.out,HS.out,if_neg (by rw [HCK.out];simp),if_neg (by rw [HCC.out];simp)]
      have ho5':w5.ownsRow w.heap.size 5 1 (.slice A4 m.px.length c4) m.px.length (m.px.map (Value.int .u8)):=own_base ho5 (by have:=HSZ.out;omega)
      have hno8:ImsOwn w7 w.heap.size v' (ims.take k++[m]):=ImsOwn.snoc hx50 hx51 hx52 ho5' hg7 (by rw [HL4.out];exact ho7)
      refine ⟨⟨k+1,by omega,by go_num,by rw [HT.out];exact hno8,hb7,hok⟩,by simp [intOf];omega⟩
     ·have hcd:(m.C != C0)=true:=by simpa using hcc
      go_quiet ((fail))
      go_wp2_with fail
      go_returns
      have hz0:imagesC ims=10:=by rw [HI.out,HD.out,HS.out,if_neg (by rw [HCK.out];simp),if_pos hcc]
      exact ⟨hbel.trans ((below_drewN hb3 _).mono hbw2),.inl ⟨by rw [hz0];decide,by rw [hz0];rfl⟩⟩
    ·have hcb:(ck != 0)=true:=by simpa using hck
     have HCK:=Lib.hid hck
     clear hck
     go_wp2_with (go_at_call 40;(with_reducible refine (hIC _).mono ?_);rintro e w2 ⟨rfl,hb2⟩)
     go_returns
     have hz0:imagesC ims=ck:=by rw [HI.out,HD.out,HS.out,if_pos HCK.out]
     exact ⟨hbel.trans ((hb1.trans (hb2.mono hb1.size)).mono hbw2),.inl ⟨by rw [hz0];exact HCK.out,by rw [hz0];rfl⟩⟩
   ·obtain rfl:k=n:=by omega
    have hz:=HD.out
    rw [List.drop_of_length_le (by omega)] at hz
    rw [List.take_of_length_le (by omega)] at hown
    have hz0:imagesC ims=0:=by rw [HI.out,hz];rfl
    have HZ:=Lib.hid hz0
    clear hz hz0
    go_wp2_with fail
    go_returns
    exact ⟨hbel,.inr ⟨HZ.out,_,rfl,hown⟩⟩
end Go.Proofs.YtjbelhpgbcnlmaaGreat
end
section
set_option linter.unusedVariables false
namespace Go.Proofs.YtjbelhpgbcnlmaaGreat
open Go.RowKit
theorem Rd.dropk {w:World} {B b o:Nat} {xs:List Value} (h:Rd w B (some ⟨b,o,none⟩) xs) (k:Nat):Rd w B (some ⟨b,o+k,none⟩) (xs.drop k):=fun i hi=>by
 have hi':k+i<xs.length:=by simp at hi;omega
 obtain ⟨b',o',e,hb,hc⟩:=h (k+i) hi'
 injection e with e;injection e with e1 e2
 subst e1;subst e2
 exact ⟨b,o+k,rfl,hb,by rw [show o+k+i=o+(k+i) by omega,hc];simp⟩
theorem channels_any {ims:List Im} {A:Option Addr} {n c lo:Nat} {w:World} (hn:ims.length=n) (hA:ImsAt w lo A ims) (h0:0<n):Calls Tryz.prog 369 #[.slice A n c] w fun e w'=>e=.returned (.int .i64 (im0 ims).C)∧w=w':=by
 have hC0:(im0 ims).C=ims[0].C:=by
  cases ims with
  | nil=>simp at hn;omega
  | cons a r=>rfl
 obtain ⟨b,o,A0,c0,rfl,_,hbw,_,_,hz2,_⟩:=hA.get 0 (show 0<ims.length by omega)
 rw [← hC0,show o+0*4+2=o+2 by omega] at hz2
 clear hC0
 generalize (im0 ims).C=C0 at *
 have hn0:(0:Int)<(n:Int):=by omega
 have HN:=Lib.hid hn
 go_enter Tryz.func369,Tryz.ntmps369
 go_wp2_with fail
 go_returns
 exact ⟨rfl,rfl⟩
theorem size_out (k:Int) (A:Option Addr) (n c:Nat) (w:World) (h:k<0∨(n:Int)≤k):Calls Tryz.prog 372 #[.slice A n c,.int .i64 k] w fun e w'=>e=.returned (.tuple #[.int .i64 0,.int .i64 0])∧w=w':=by
 rcases (show k<0∨(0≤k∧(n:Int)≤k) by omega) with h1|⟨h1,h2⟩
 all_goals
  clear h
  go_enter Tryz.func372,Tryz.ntmps372
  go_wp2_with fail
  go_returns
  exact ⟨rfl,rfl⟩
theorem size_in {ims:List Im} {A:Option Addr} {n c lo:Nat} {w:World} (hn:ims.length=n) (hA:ImsAt w lo A ims) (k:Nat) (hk:k<ims.length):Calls Tryz.prog 372 #[.slice A n c,.int .i64 (k:Nat)] w fun e w'=>e=.returned (.tuple #[.int .i64 ims[k].W,.int .i64 ims[k].H])∧∃ q,w'=w.drewN q:=by
 obtain ⟨b,o,Ai,ci,rfl,_,hbw,q0,q1,_⟩:=hA.get k hk
 have hkn:(k:Int)<(n:Int):=by omega
 generalize ims[k]=m at *
 clear hn
 go_enter Tryz.func372,Tryz.ntmps372
 go_wp2_with fail
 go_quiet ((fail))
 go_wp2_with fail
 go_returns
 exact ⟨rfl,_,rfl⟩
theorem read_far (k x y:Int) (A:Option Addr) (n c:Nat) (w:World) (h:k<0∨(n:Int)≤k):Calls Tryz.prog 371 #[.slice A n c,.int .i64 k,.int .i64 x,.int .i64 y] w fun e w'=>e=.returned (.slice none 0 0)∧w=w':=by
 have hS:=size_out k A n c w h
 clear h
 rcases (show x<0∨0≤x by omega) with h1|h1
 all_goals
  go_enter Tryz.func371,Tryz.ntmps371
  go_wp2_with (go_at_call 372;(with_reducible refine hS.mono ?_);rintro e w1 ⟨rfl,rfl⟩)
  go_returns
  exact ⟨rfl,rfl⟩
theorem read_out {ims:List Im} {A:Option Addr} {n c lo:Nat} {w:World} (hn:ims.length=n) (hA:ImsAt w lo A ims) (k:Nat) (hk:k<ims.length) (x y:Int) (h:x<0∨ims[k].W≤x∨y<0∨ims[k].H≤y) :
 Calls Tryz.prog 371 #[.slice A n c,.int .i64 (k:Nat),.int .i64 x,.int .i64 y] w fun e w'=>e=.returned (.slice none 0 0)∧Below w.heap.size w w':=by
 have hS:=size_in (c:=c) hn hA k hk
 generalize ims[k]=m at *
 clear hA hk hn
 rcases (show x<0∨(0≤x∧m.W≤x)∨(0≤x∧x<m.W∧y<0)∨(0≤x∧x<m.W∧0≤y∧m.H≤y) by omega) with h1|⟨h1,h2⟩|⟨h1,h2,h3⟩|⟨h1,h2,h3,h4⟩
 all_goals
  clear h
  go_enter Tryz.func371,Tryz.ntmps371
  go_wp2_with (go_at_call 372;(with_reducible refine hS.mono ?_);rintro e w1 ⟨rfl,q,rfl⟩)
  go_returns
  exact ⟨rfl,below_drewN (Below.refl _ _) q⟩
theorem ck_parts {W H C:Int} {n:Nat} (h:checkC W H C n=0):fitsC W H C=0∧(n:Int)=W*H*C:=by
 unfold checkC at h
 split at h
 ·omega
 ·rename_i h1
  refine ⟨h,?_⟩
  by_cases h2:(n:Int)=W*H*C
  ·exact h2
  ·exact absurd ⟨h,h2⟩ h1
theorem at_bd {W H C x y:Int} (hC:1≤C∧C≤4) (hW:1≤W∧W≤32768) (hH:1≤H∧H≤32768) (hx:0≤x∧x<W) (hy:0≤y∧y<H) :
 (0≤y*W∧y*W≤1073741824)∧(0≤y*W+x∧y*W+x≤1073774592)∧(0≤(y*W+x)*C∧(y*W+x)*C≤4295098368)∧(y*W+x)*C+C≤W*H*C:=by
 have e1:0≤y*W:=Int.mul_nonneg (by omega) (by omega)
 have e2:y*W≤(H-1)*W:=Int.mul_le_mul_of_nonneg_right (by omega) (by omega)
 have e3:(H-1)*W≤32767*W:=Int.mul_le_mul_of_nonneg_right (by omega) (by omega)
 have e4:y*W+x+1≤W*H:=by rw [Int.sub_mul,Int.one_mul,Int.mul_comm H W] at e2;omega
 have e5:(y*W+x+1)*C≤W*H*C:=Int.mul_le_mul_of_nonneg_right e4 (by omega)
 rw [Int.add_mul,Int.one_mul] at e5
 have e6:0≤(y*W+x)*C:=Int.mul_nonneg (by omega) (by omega)
 have e7:(y*W+x)*C≤(y*W+x)*4:=Int.mul_le_mul_of_nonneg_left (by omega) (by omega)
 refine ⟨⟨e1,by omega⟩,⟨by omega,by omega⟩,⟨e6,by omega⟩,by omega⟩
def pxB (m:Im) (x y:Int):List Int:=(m.px.drop ((y*m.W+x)*m.C).toNat).take m.C.toNat
set_option maxRecDepth 100000 in
set_option maxHeartbeats 4000000 in
theorem read_in {ims:List Im} {A:Option Addr} {n c lo:Nat} {w:World} (hn:ims.length=n) (hA:ImsAt w lo A ims) (k:Nat) (hk:k<ims.length) (x y:Int) (hck:checkC ims[k].W ims[k].H ims[k].C ims[k].px.length=0) (hx:0≤x∧x<ims[k].W) (hy:0≤y∧y<ims[k].H) :
 Calls Tryz.prog 371 #[.slice A n c,.int .i64 (k:Nat),.int .i64 x,.int .i64 y] w (OwnU (pxB ims[k] x y) w):=by
 have hS:=size_in (c:=c) hn hA k hk
 obtain ⟨b,o,Ai,ci,rfl,_,hbw,q0,q1,q2,q3,hci,hri⟩:=hA.get k hk
 have hkn:(k:Int)<(n:Int):=by omega
 unfold pxB
 generalize ims[k]=m at *
 obtain ⟨W,H,C,px⟩:=m
 simp only at *
 obtain ⟨hf,hl⟩:=ck_parts hck
 obtain ⟨hc,hw1,hw2,hh1,hh2,hp⟩:=fitsC_ok hf
 obtain ⟨⟨a1,a2⟩,⟨a3,a4⟩,⟨a5,a6⟩,a7⟩:=at_bd (C:=C) (by omega) ⟨hw1,hw2⟩ ⟨hh1,hh2⟩ hx hy
 have hpx:px.length≤16777216:=by have:=mul3_bd W H C (by have:=Int.mul_nonneg (show 0≤W by omega) (show 0≤H by omega);omega) hp (by omega) (by omega);omega
 have h99:∃ (z:Int) (q Cn:Nat),(y*W+x)*C=z∧z.toNat=q∧C.toNat=Cn∧(z+C).toNat=q+Cn∧q+Cn≤px.length∧0≤z∧z≤4295098368∧1≤Cn∧Cn≤4:=⟨_,_,_,rfl,rfl,rfl,by omega,by omega,by omega,by omega,by omega,by omega⟩
 obtain ⟨z,at0,Cn,hat,et,et2,et3,hle,hz0,hz1,hC1,hC4⟩:=h99
 have hbo:∃ b2 o2,Ai=some ⟨b2,o2,none⟩:=by
  obtain ⟨b2,o2,e,_⟩:=hri.rd.get 0 (by simp;omega)
  exact ⟨b2,o2,e⟩
 obtain ⟨b2,o2,rfl⟩:=hbo
 have hr2:Rd w w.heap.size (some ⟨b2,o2+at0,none⟩) (((px.drop at0).take Cn).map (Value.int .u8)):=by
  rw [List.map_take,List.map_drop]
  exact (hri.rd.dropk at0).take Cn
 have hCl:=fun nq=>cloneu_any ((px.drop at0).take Cn) (some ⟨b2,o2+at0,none⟩) Cn (ci-at0) (w.drewN nq) (by simp;omega) (by omega) (hr2.drewN nq) (Nat.le_refl _)
 have v1:wrap64 (y*W)=y*W:=IntWalk.wrap64_in _ ⟨by omega,by omega⟩
 have v2:wrap64 (y*W+x)=y*W+x:=IntWalk.wrap64_in _ ⟨by omega,by omega⟩
 have v3:wrap64 ((y*W+x)*C)=z:=by rw [hat];exact IntWalk.wrap64_in _ ⟨by omega,by omega⟩
 have v4:wrap64 (z+C)=z+C:=IntWalk.wrap64_in _ ⟨by omega,by omega⟩
 rw [hat,et,et2]
 obtain ⟨hx1,hx2⟩:=hx
 obtain ⟨hy1,hy2⟩:=hy
 have hac:at0+Cn≤ci:=by omega
 have hzc:0≤z+C:=by omega
 have hq0:at0+Cn-at0=Cn:=by omega
 clear hat hck hf hl hc hp hA hri hr2 q0 q1 hle a1 a2 a3 a4 a5 a6 a7 hpx
 have HN:=Lib.hid hn
 clear hn
 go_enter Tryz.func371,Tryz.ntmps371
 go_upto_region 6 with (go_at_call 372;(with_reducible refine hS.mono ?_);rintro e w1 ⟨rfl,q,rfl⟩)
 clear v1 v2 hS
 have hif:(ci=at0)=False:=by simp;omega
 go_wp2_with (go_at_call 41;go_loud (with_reducible refine (hCl _).mono ?_);rintro e w4 ⟨s4,rfl,ho4,hb4⟩)
 go_returns
 exact ⟨_,rfl,ho4,(below_drewN (Below.refl w.heap.size w) q).trans hb4⟩
end Go.Proofs.YtjbelhpgbcnlmaaGreat
end
section
set_option linter.unusedVariables false
namespace Go.Proofs.YtjbelhpgbcnlmaaGreat
open Go.RowKit
def sNear:ByteArray:=⟨#[110,101,97,114]⟩
def sLinear:ByteArray:=⟨#[108,105,110,101,97,114]⟩
def sCubic:ByteArray:=⟨#[99,117,98,105,99]⟩
def sSuper:ByteArray:=⟨#[115,117,112,101,114]⟩
abbrev kerA:Array Value:=#[.string sNear,.func (.func 83) #[] #[],.func (.func 84) #[] #[],
 .string sLinear,.func (.func 85) #[] #[],.func (.func 86) #[] #[],
 .string sCubic,.func (.func 87) #[] #[],.func (.func 88) #[] #[],
 .string sSuper,.func (.func 85) #[] #[],.func (.func 86) #[] #[]]
theorem ker_size:(Tryz.prog.info? 92).map (·.size)=some 12:=by kernel_rfl
theorem kernels_any (w:World):Calls Tryz.prog 43 #[] w fun e w'=>e=.returned (.agg kerA)∧Below w.heap.size w w':=by
 have hbz:=(Below.refl w.heap.size w).alloc (Nat.le_refl _) (.cells #[.string ⟨#[]⟩,.nilFunc,.nilFunc,.string ⟨#[]⟩,.nilFunc,.nilFunc,.string ⟨#[]⟩,.nilFunc,.nilFunc,.string ⟨#[]⟩,.nilFunc,.nilFunc] 92)
 have hK:=Bk.new w 92 #[.string ⟨#[]⟩,.nilFunc,.nilFunc,.string ⟨#[]⟩,.nilFunc,.nilFunc,.string ⟨#[]⟩,.nilFunc,.nilFunc,.string ⟨#[]⟩,.nilFunc,.nilFunc]
 go_enter Tryz.func43,Tryz.ntmps43
 go_wp2_with (refine stB (ty:=92) (cells:=kerA) rfl _ _ rfl hK rfl rfl ker_size rfl (by simp [Value.oneCell']) ?_;intro w' hK' hg' _)
 refine bodyPost_ret (res_cell rfl hK' rfl Tryz.underlying92 rfl ker_size) rfl ?_
 exact ⟨rfl,below_of_gb hbz hg' (Nat.le_refl _) hbz.size⟩
theorem is_any (k:Int) (w:World):Calls Tryz.prog 81 #[.int .i64 k] w fun e w'=>e=.returned (.bool (decide (0≤k∧k≤3)))∧w=w':=by
 by_cases h:0≤k
 all_goals
  go_enter Tryz.func81,Tryz.ntmps81
  go_wp2
  go_returns
  exact ⟨ret_bool (by simp <;> omega),rfl⟩
theorem shr16' (x:Int) (s:Nat) (hs:s=16):x >>> s=x/65536:=by
 subst hs;rw [Int.shiftRight_eq_div_pow];rfl
def inF (u:Int):Bool:=decide (-70368744177664≤u∧u≤70368744177664)
theorem inF_eq (u:Int):inF u=(decide (-70368744177664≤u)&&decide (u≤70368744177664)):=by unfold inF;simp
theorem inF_iff {u:Int}:inF u=true ↔ (-70368744177664≤u∧u≤70368744177664):=by unfold inF;exact decide_eq_true_iff
def reachR (a b h lo hi:Int):Int × Int:=if lo≤hi∧inF lo=true∧inF hi=true then ((lo+h)/65536+a,(hi+h)/65536+b) else (0,0)
theorem near_in (u:Int) (w:World):Calls Tryz.prog 154 #[.int .i64 u] w fun e w'=>e=.returned (.bool (inF u))∧w=w':=by
 by_cases h1:-70368744177664≤u
 all_goals
  go_enter Tryz.func154,Tryz.ntmps154
  go_wp2
  go_ret
  exact ⟨ret_bool (by rw [inF_eq];simp <;> omega),rfl⟩
theorem linear_in (u:Int) (w:World):Calls Tryz.prog 156 #[.int .i64 u] w fun e w'=>e=.returned (.bool (inF u))∧w=w':=by
 by_cases h1:-70368744177664≤u
 all_goals
  go_enter Tryz.func156,Tryz.ntmps156
  go_wp2
  go_ret
  exact ⟨ret_bool (by rw [inF_eq];simp <;> omega),rfl⟩
theorem cubic_in (u:Int) (w:World):Calls Tryz.prog 160 #[.int .i64 u] w fun e w'=>e=.returned (.bool (inF u))∧w=w':=by
 by_cases h1:-70368744177664≤u
 all_goals
  go_enter Tryz.func160,Tryz.ntmps160
  go_wp2
  go_ret
  exact ⟨ret_bool (by rw [inF_eq];simp <;> omega),rfl⟩
theorem near_index (u:Int) (w:World) (h1:-70368744177664≤u) (h2:u≤70368744177664):Calls Tryz.prog 155 #[.int .i64 u] w fun e w'=>e=.returned (.int .i64 ((u+32768)/65536))∧w=w':=by
 go_enter Tryz.func155,Tryz.ntmps155
 go_wp2
 go_ret
 exact ⟨ret_int (by first | rfl|(simp [shr16'])),rfl⟩
theorem split_any (u:Int) (w:World):Calls Tryz.prog 159 #[.int .i64 u] w fun e w'=>(∃ r,e=.returned (.tuple #[.int .i64 (u/65536),.int .i64 r]))∧w=w':=by
 go_enter Tryz.func159,Tryz.ntmps159
 go_wp2
 go_returns
 exact ⟨⟨_,by first | rfl|(rw [shr16' _ _ rfl])⟩,rfl⟩
theorem ker_ix0 (w:World):(Instr.index 92 (.agg kerA) (.int .i64 0)).run Tryz.prog w=.ok (.agg #[.string sNear,.func (.func 83) #[] #[],.func (.func 84) #[] #[]]) w:=by kernel_rfl
theorem ker_ix1 (w:World):(Instr.index 92 (.agg kerA) (.int .i64 1)).run Tryz.prog w=.ok (.agg #[.string sLinear,.func (.func 85) #[] #[],.func (.func 86) #[] #[]]) w:=by kernel_rfl
theorem ker_ix2 (w:World):(Instr.index 92 (.agg kerA) (.int .i64 2)).run Tryz.prog w=.ok (.agg #[.string sCubic,.func (.func 87) #[] #[],.func (.func 88) #[] #[]]) w:=by kernel_rfl
theorem ker_ix3 (w:World):(Instr.index 92 (.agg kerA) (.int .i64 3)).run Tryz.prog w=.ok (.agg #[.string sSuper,.func (.func 85) #[] #[],.func (.func 86) #[] #[]]) w:=by kernel_rfl
theorem ker_f0 (a b c:Value) (w:World):(Instr.field 91 (.agg #[a,b,c]) 0).run Tryz.prog w=.ok a w:=by kernel_rfl
theorem ker_f2 (a b c:Value) (w:World):(Instr.field 91 (.agg #[a,b,c]) 2).run Tryz.prog w=.ok c w:=by kernel_rfl
def nameR (k:Int):ByteArray:=if k=0 then sNear else if k=1 then sLinear else if k=2 then sCubic else if k=3 then sSuper else ⟨#[]⟩
set_option maxHeartbeats 1000000 in
theorem name_any (k:Int) (w:World):Calls Tryz.prog 56 #[.int .i64 k] w fun e w'=>e=.returned (.string (nameR k))∧Below w.heap.size w w':=by
 by_cases h:0≤k∧k≤3
 ·have hd:decide (0≤k∧k≤3)=true:=decide_eq_true h
  have h4:k=0∨k=1∨k=2∨k=3:=by omega
  clear h
  rcases h4 with rfl|rfl|rfl|rfl
  ·have hi:=ker_ix0
   have hf:=ker_f0
   go_enter Tryz.func56,Tryz.ntmps56
   go_wp2_with (first
    | (go_at_call 81;(with_reducible refine (is_any _ _).mono ?_);rintro e w' ⟨rfl,rfl⟩;rw [hd])
    | (go_at_call 43;(with_reducible refine (kernels_any _).mono ?_);rintro e w1 ⟨rfl,hb1⟩))
   go_returns
   exact ⟨rfl,hb1⟩
  ·have hi:=ker_ix1
   have hf:=ker_f0
   go_enter Tryz.func56,Tryz.ntmps56
   go_wp2_with (first
    | (go_at_call 81;(with_reducible refine (is_any _ _).mono ?_);rintro e w' ⟨rfl,rfl⟩;rw [hd])
    | (go_at_call 43;(with_reducible refine (kernels_any _).mono ?_);rintro e w1 ⟨rfl,hb1⟩))
   go_returns
   exact ⟨rfl,hb1⟩
  ·have hi:=ker_ix2
   have hf:=ker_f0
   go_enter Tryz.func56,Tryz.ntmps56
   go_wp2_with (first
    | (go_at_call 81;(with_reducible refine (is_any _ _).mono ?_);rintro e w' ⟨rfl,rfl⟩;rw [hd])
    | (go_at_call 43;(with_reducible refine (kernels_any _).mono ?_);rintro e w1 ⟨rfl,hb1⟩))
   go_returns
   exact ⟨rfl,hb1⟩
  ·have hi:=ker_ix3
   have hf:=ker_f0
   go_enter Tryz.func56,Tryz.ntmps56
   go_wp2_with (first
    | (go_at_call 81;(with_reducible refine (is_any _ _).mono ?_);rintro e w' ⟨rfl,rfl⟩;rw [hd])
    | (go_at_call 43;(with_reducible refine (kernels_any _).mono ?_);rintro e w1 ⟨rfl,hb1⟩))
   go_returns
   exact ⟨rfl,hb1⟩
 ·have hd:decide (0≤k∧k≤3)=false:=decide_eq_false h
  have HN:Hid (nameR k=⟨#[]⟩):=by show _=_;unfold nameR;rw [if_neg (by omega),if_neg (by omega),if_neg (by omega),if_neg (by omega)]
  clear h
  go_enter Tryz.func56,Tryz.ntmps56
  go_wp2_with (go_at_call 81;(with_reducible refine (is_any _ _).mono ?_);rintro e w' ⟨rfl,rfl⟩;rw [hd])
  go_returns
  exact ⟨by rw [HN.out];rfl,Below.refl _ _⟩
end Go.Proofs.YtjbelhpgbcnlmaaGreat
end
section
set_option linter.unusedVariables false
namespace Go.Proofs.YtjbelhpgbcnlmaaGreat
open Go.RowKit
abbrev bdV (mo c0 c1 c2 c3:Int):Value:=.agg #[.int .i64 mo,.int .u8 c0,.int .u8 c1,.int .u8 c2,.int .u8 c3]
def modeC (m:Int):Int:=if m<0∨3<m then 10 else 0
def kerC (k n m:Int):Int:=if k<0∨3<k then 10 else if k=3∧(n<1∨8<n) then 11 else modeC m
theorem bchk_any (m c0 c1 c2 c3:Int) (w:World):Calls Tryz.prog 82 #[bdV m c0 c1 c2 c3] w fun e w'=>e=.returned (.int .i64 (modeC m))∧Below w.heap.size w w':=by
 by_cases h:m<0
 ·have HM:Hid (modeC m=10):=by show _=_;unfold modeC;rw [if_pos (.inl h)]
  go_enter Tryz.func82,Tryz.ntmps82
  go_wp2
  go_returns
  exact ⟨ret_int HM.out.symm,by go_grown⟩
 ·by_cases h2:3<m
  ·have HM:Hid (modeC m=10):=by show _=_;unfold modeC;rw [if_pos (.inr h2)]
   go_enter Tryz.func82,Tryz.ntmps82
   go_wp2
   go_returns
   exact ⟨ret_int HM.out.symm,by go_grown⟩
  ·have HM:Hid (modeC m=0):=by show _=_;unfold modeC;rw [if_neg (by omega)]
   go_enter Tryz.func82,Tryz.ntmps82
   go_wp2
   go_returns
   exact ⟨ret_int HM.out.symm,by go_grown⟩
set_option maxRecDepth 100000 in
set_option maxHeartbeats 4000000 in
theorem kchk_any (k n m c0 c1 c2 c3:Int) (w:World):Calls Tryz.prog 42 #[.int .i64 k,.int .i64 n,bdV m c0 c1 c2 c3] w fun e w'=>e=.returned (.int .i64 (kerC k n m))∧Below w.heap.size w w':=by
 by_cases h:0≤k∧k≤3
 ·have hd:decide (0≤k∧k≤3)=true:=decide_eq_true h
  by_cases h3:k=3∧(n<1∨8<n)
  ·have HM:Hid (kerC k n m=11):=by show _=_;unfold kerC;rw [if_neg (by omega),if_pos h3]
   have hk3:(k==3)=true:=by simp [h3.1]
   rcases (show n<1∨(1≤n∧8<n) by omega) with hn|⟨hn,hn2⟩
   all_goals
    clear h h3
    go_enter Tryz.func42,Tryz.ntmps42
    go_wp2_with (go_at_call 81;(with_reducible refine (is_any _ _).mono ?_);rintro e w1 ⟨rfl,rfl⟩;rw [hd])
    go_returns
    exact ⟨ret_int HM.out.symm,by go_grown⟩
  ·have HM:Hid (kerC k n m=modeC m):=by show _=_;unfold kerC;rw [if_neg (by omega),if_neg h3]
   have hC:=fun w=>bchk_any m c0 c1 c2 c3 w
   by_cases hk:k=3
   ·have hk3:(k==3)=true:=by simp [hk]
    have hn1:1≤n:=by omega
    have hn2:n≤8:=by omega
    clear h h3 hk
    go_enter Tryz.func42,Tryz.ntmps42
    go_wp2_with (first
     | (go_at_call 81;(with_reducible refine (is_any _ _).mono ?_);rintro e w1 ⟨rfl,rfl⟩;rw [hd])
     | (go_at_call 82;(with_reducible refine (hC _).mono ?_);rintro e w2 ⟨rfl,hb2⟩))
    go_returns
    exact ⟨ret_int HM.out.symm,((Below.refl _ _).alloc (Nat.le_refl _) _).trans (hb2.mono (by simp))⟩
   ·have hk3:(k==3)=false:=by simpa using hk
    clear h h3 hk
    go_enter Tryz.func42,Tryz.ntmps42
    go_wp2_with (first
     | (go_at_call 81;(with_reducible refine (is_any _ _).mono ?_);rintro e w1 ⟨rfl,rfl⟩;rw [hd])
     | (go_at_call 82;(with_reducible refine (hC _).mono ?_);rintro e w2 ⟨rfl,hb2⟩))
    go_returns
    exact ⟨ret_int HM.out.symm,((Below.refl _ _).alloc (Nat.le_refl _) _).trans (hb2.mono (by simp))⟩
 ·have hd:decide (0≤k∧k≤3)=false:=decide_eq_false h
  have HM:Hid (kerC k n m=10):=by show _=_;unfold kerC;rw [if_pos (by omega)]
  clear h
  go_enter Tryz.func42,Tryz.ntmps42
  go_wp2_with (go_at_call 81;(with_reducible refine (is_any _ _).mono ?_);rintro e w1 ⟨rfl,rfl⟩;rw [hd])
  go_returns
  exact ⟨ret_int HM.out.symm,by go_grown⟩
set_option maxRecDepth 100000 in
set_option maxHeartbeats 4000000 in
theorem rkchk_any (k n m c0 c1 c2 c3:Int) (w:World):Calls Tryz.prog 11 #[.int .i64 k,.int .i64 n,bdV m c0 c1 c2 c3] w fun e w'=>e=.returned (.int .i64 (kerC k n m))∧Below w.heap.size w w':=by
 rcases (show k<0∨(0≤k∧3<k)∨(0≤k∧k≤2)∨k=3 by omega) with hk|⟨hk,hk2⟩|⟨hk,hk2⟩|hk
 ·have HM:Hid (kerC k n m=10):=by show _=_;unfold kerC;rw [if_pos (.inl hk)]
  go_enter Tryz.func11,Tryz.ntmps11
  go_wp2
  go_returns
  exact ⟨ret_int HM.out.symm,by go_grown⟩
 ·have HM:Hid (kerC k n m=10):=by show _=_;unfold kerC;rw [if_pos (.inr hk2)]
  go_enter Tryz.func11,Tryz.ntmps11
  go_wp2
  go_returns
  exact ⟨ret_int HM.out.symm,by go_grown⟩
 ·have hk3:(k==3)=false:=by simp;omega
  have HM:Hid (kerC k n m=modeC m):=by show _=_;unfold kerC;rw [if_neg (by omega),if_neg (by omega)]
  rcases (show m<0∨(0≤m∧3<m)∨(0≤m∧m≤3) by omega) with hm|⟨hm,hm2⟩|⟨hm,hm2⟩
  all_goals
   go_enter Tryz.func11,Tryz.ntmps11
   go_wp2
   go_returns
   exact ⟨ret_int (by rw [HM.out];unfold modeC;first | rw [if_pos (by omega)]|rw [if_neg (by omega)]),by go_grown⟩
 ·subst hk
  rcases (show n<1∨(1≤n∧8<n)∨(1≤n∧n≤8) by omega) with hn|⟨hn,hn2⟩|⟨hn,hn2⟩
  ·have HM:Hid (kerC 3 n m=11):=by show _=_;unfold kerC;rw [if_neg (by omega),if_pos ⟨rfl,.inl hn⟩]
   go_enter Tryz.func11,Tryz.ntmps11
   go_wp2
   go_returns
   exact ⟨ret_int HM.out.symm,by go_grown⟩
  ·have HM:Hid (kerC 3 n m=11):=by show _=_;unfold kerC;rw [if_neg (by omega),if_pos ⟨rfl,.inr hn2⟩]
   go_enter Tryz.func11,Tryz.ntmps11
   go_wp2
   go_returns
   exact ⟨ret_int HM.out.symm,by go_grown⟩
  ·have HM:Hid (kerC 3 n m=modeC m):=by show _=_;unfold kerC;rw [if_neg (by omega),if_neg (by omega)]
   rcases (show m<0∨(0≤m∧3<m)∨(0≤m∧m≤3) by omega) with hm|⟨hm,hm2⟩|⟨hm,hm2⟩
   all_goals
    go_enter Tryz.func11,Tryz.ntmps11
    go_wp2
    go_returns
    exact ⟨ret_int (by rw [HM.out];unfold modeC;first | rw [if_pos (by omega)]|rw [if_neg (by omega)]),by go_grown⟩
theorem snew_nil (k n m c0 c1 c2 c3:Int) (w:World):Calls Tryz.prog 13 #[.nilIface,.int .i64 k,.int .i64 n,bdV m c0 c1 c2 c3] w fun e w'=>e=.returned (.tuple #[.pointer none,.int .i64 10])∧Below w.heap.size w w':=by
 have hq:∀ w,(binOp .eql 42 .nilIface .nilIface).run Tryz.prog w=.ok (.bool true) w:=fun w=>by kernel_rfl
 go_enter Tryz.func13,Tryz.ntmps13
 go_wp2
 go_returns
 exact ⟨rfl,by go_grown⟩
end Go.Proofs.YtjbelhpgbcnlmaaGreat
end
