/- Several texts in one: Several texts in one: slices.ContainsFunc at numbers; lens: what is wrong with its numbers. lens: how far a place is from the middle; what is wrong with its numbers. lens: New. lens: what is bent. lens: where a place comes from. the reference's lens: what is wrong. the reference's lens: where a place comes from. -/
import Derived.Test.YtjbelhpgbcnlmaaGreatSamplePixelsZz26
section
section
set_option linter.unusedVariables false
namespace Go.Proofs.YtjbelhpgbcnlmaaGreat
open Go.RowKit
set_option maxRecDepth 100000 in
set_option maxHeartbeats 4000000 in
theorem ixf_lens (p:Int→Bool) (hF:∀ x w',Calls Tryz.prog 290 #[.int .i64 x] w' fun e w''=>e=.returned (.bool (p x))∧w'=w'') (l:List Int) (A:Option Addr) (n cp:Nat) (w:World) {B:Nat} (hl:l.length=n) (hn:n≤100000) (hr:Rd w B A (l.map (Value.int .i64))) :
 Calls Tryz.prog 293 #[.slice A n cp,.func (.func 290) #[] #[]] w fun e w'=>(∃ r,e=.returned (.int .i64 r)∧decide (0≤r)=l.any p)∧w=w':=by
 have HL:=Lib.hid hl
 clear hl
 go_enter Tryz.func293,Tryz.ntmps293
 go_wp2_with fail
 go_loop [5,8] (fun _ kv=>∃ k:Nat,k≤n∧kv=.int .i64 k∧Hid ((l.take k).any p=false)) (fun _ kv=>n-(intOf kv).toNat)
 case atStart=>exact ⟨0,by omega,rfl,by simp [Hid]⟩
 case round =>
  obtain ⟨k,hk,rfl,hall⟩:=hrel
  by_cases hlt:k<n
  ·obtain ⟨b,o,rfl,hb,hc⟩:=hr.get k (by rw [List.length_map,HL.out];exact hlt)
   have hx:(l.map (Value.int .i64))[k]'(by rw [List.length_map,HL.out];exact hlt)=.int .i64 (l.getD k 0):=by
    rw [List.getElem_map,List.getD_eq_getElem?_getD,List.getElem?_eq_getElem (by rw [HL.out];exact hlt)];rfl
   rw [hx] at hc
   clear hx
   have hS:Hid (l.take (k+1)=l.take k++[l.getD k 0]):=by
    show _=_
    rw [List.take_succ_eq_append_getElem (by rw [HL.out];exact hlt),List.getD_eq_getElem?_getD,List.getElem?_eq_getElem (by rw [HL.out];exact hlt)];rfl
   cases hp:p (l.getD k 0)
   ·have HN:Hid ((l.take (k+1)).any p=false):=by
     show _=_
     rw [hS.out,List.any_append,hall.out];simp only [List.any_cons,List.any_nil,hp,Bool.or_false]
    generalize l.getD k 0=x at *
    have hFx:=hF x
    rw [hp] at hFx
    clear hF hS
    go_wp2_with fail
    refine (hFx _).mono ?_
    rintro e w' ⟨rfl,rfl⟩
    go_wp2_with fail
    exact ⟨⟨k+1,by omega,by go_num,HN⟩,by simp [intOf];omega⟩
   ·have HN:Hid (l.any p=true):=by
     show _=_
     rw [← List.take_append_drop (k+1) l,List.any_append,hS.out,List.any_append];simp only [List.any_cons,List.any_nil,hp,Bool.or_false,Bool.or_true,Bool.true_or]
    generalize l.getD k 0=x at *
    have hFx:=hF x
    rw [hp] at hFx
    clear hF hS
    go_wp2_with fail
    refine (hFx _).mono ?_
    rintro e w' ⟨rfl,rfl⟩
    go_wp2_with fail
    go_returns
    exact ⟨⟨_,rfl,by rw [HN.out];simp⟩,rfl⟩
  ·obtain rfl:k=n:=by omega
   have HN:Hid (l.any p=false):=by
    have:=hall.out
    rw [List.take_of_length_le (by rw [HL.out];exact Nat.le_refl _)] at this
    exact this
   clear hF
   go_wp2_with fail
   go_returns
   exact ⟨⟨_,rfl,by rw [HN.out];simp⟩,rfl⟩
set_option maxHeartbeats 1000000 in
theorem ctf_lens (p:Int→Bool) (hF:∀ x w',Calls Tryz.prog 290 #[.int .i64 x] w' fun e w''=>e=.returned (.bool (p x))∧w'=w'') (l:List Int) (A:Option Addr) (n cp:Nat) (w:World) {B:Nat} (hl:l.length=n) (hn:n≤100000) (hr:Rd w B A (l.map (Value.int .i64))) :
 Calls Tryz.prog 241 #[.slice A n cp,.func (.func 290) #[] #[]] w fun e w'=>e=.returned (.bool (l.any p))∧w=w':=by
 have hI:=ixf_lens p hF l A n cp w hl hn hr
 clear hF hl hr
 generalize l.any p=bb at *
 go_enter Tryz.func241,Tryz.ntmps241
 go_wp2_with fail
 refine hI.mono ?_
 rintro e w1 ⟨⟨r,rfl,hb⟩,rfl⟩
 have HB:=Lib.hid hb
 clear hb hI
 go_wp2_with fail
 go_ret
 exact ⟨ret_bool HB.out,rfl⟩
set_option maxRecDepth 100000 in
set_option maxHeartbeats 4000000 in
theorem ixf_mesh (p:Int→Bool) (hF:∀ x w',Calls Tryz.prog 242 #[.int .i64 x] w' fun e w''=>e=.returned (.bool (p x))∧w'=w'') (l:List Int) (A:Option Addr) (n cp:Nat) (w:World) {B:Nat} (hl:l.length=n) (hn:n≤100000) (hr:Rd w B A (l.map (Value.int .i64))) :
 Calls Tryz.prog 293 #[.slice A n cp,.func (.func 242) #[] #[]] w fun e w'=>(∃ r,e=.returned (.int .i64 r)∧decide (0≤r)=l.any p)∧w=w':=by
 have HL:=Lib.hid hl
 clear hl
 go_enter Tryz.func293,Tryz.ntmps293
 go_wp2_with fail
 go_loop [5,8] (fun _ kv=>∃ k:Nat,k≤n∧kv=.int .i64 k∧Hid ((l.take k).any p=false)) (fun _ kv=>n-(intOf kv).toNat)
 case atStart=>exact ⟨0,by omega,rfl,by simp [Hid]⟩
 case round =>
  obtain ⟨k,hk,rfl,hall⟩:=hrel
  by_cases hlt:k<n
  ·obtain ⟨b,o,rfl,hb,hc⟩:=hr.get k (by rw [List.length_map,HL.out];exact hlt)
   have hx:(l.map (Value.int .i64))[k]'(by rw [List.length_map,HL.out];exact hlt)=.int .i64 (l.getD k 0):=by
    rw [List.getElem_map,List.getD_eq_getElem?_getD,List.getElem?_eq_getElem (by rw [HL.out];exact hlt)];rfl
   rw [hx] at hc
   clear hx
   have hS:Hid (l.take (k+1)=l.take k++[l.getD k 0]):=by
    show _=_
    rw [List.take_succ_eq_append_getElem (by rw [HL.out];exact hlt),List.getD_eq_getElem?_getD,List.getElem?_eq_getElem (by rw [HL.out];exact hlt)];rfl
   cases hp:p (l.getD k 0)
   ·have HN:Hid ((l.take (k+1)).any p=false):=by
     show _=_
     rw [hS.out,List.any_append,hall.out];simp only [List.any_cons,List.any_nil,hp,Bool.or_false]
    generalize l.getD k 0=x at *
    have hFx:=hF x
    rw [hp] at hFx
    clear hF hS
    go_wp2_with fail
    refine (hFx _).mono ?_
    rintro e w' ⟨rfl,rfl⟩
    go_wp2_with fail
    exact ⟨⟨k+1,by omega,by go_num,HN⟩,by simp [intOf];omega⟩
   ·have HN:Hid (l.any p=true):=by
     show _=_
     rw [← List.take_append_drop (k+1) l,List.any_append,hS.out,List.any_append];simp only [List.any_cons,List.any_nil,hp,Bool.or_false,Bool.or_true,Bool.true_or]
    generalize l.getD k 0=x at *
    have hFx:=hF x
    rw [hp] at hFx
    clear hF hS
    go_wp2_with fail
    refine (hFx _).mono ?_
    rintro e w' ⟨rfl,rfl⟩
    go_wp2_with fail
    go_returns
    exact ⟨⟨_,rfl,by rw [HN.out];simp⟩,rfl⟩
  ·obtain rfl:k=n:=by omega
   have HN:Hid (l.any p=false):=by
    have:=hall.out
    rw [List.take_of_length_le (by rw [HL.out];exact Nat.le_refl _)] at this
    exact this
   clear hF
   go_wp2_with fail
   go_returns
   exact ⟨⟨_,rfl,by rw [HN.out];simp⟩,rfl⟩
set_option maxHeartbeats 1000000 in
theorem ctf_mesh (p:Int→Bool) (hF:∀ x w',Calls Tryz.prog 242 #[.int .i64 x] w' fun e w''=>e=.returned (.bool (p x))∧w'=w'') (l:List Int) (A:Option Addr) (n cp:Nat) (w:World) {B:Nat} (hl:l.length=n) (hn:n≤100000) (hr:Rd w B A (l.map (Value.int .i64))) :
 Calls Tryz.prog 241 #[.slice A n cp,.func (.func 242) #[] #[]] w fun e w'=>e=.returned (.bool (l.any p))∧w=w':=by
 have hI:=ixf_mesh p hF l A n cp w hl hn hr
 clear hF hl hr
 generalize l.any p=bb at *
 go_enter Tryz.func241,Tryz.ntmps241
 go_wp2_with fail
 refine hI.mono ?_
 rintro e w1 ⟨⟨r,rfl,hb⟩,rfl⟩
 have HB:=Lib.hid hb
 clear hb hI
 go_wp2_with fail
 go_ret
 exact ⟨ret_bool HB.out,rfl⟩
theorem lin_any (a b:Int) (w:World) (hb0:0≤b) (hb:b≤9223372036854775807):Calls Tryz.prog 237 #[.int .i64 a,.int .i64 b] w fun e w'=>e=.returned (.bool (inH a b))∧w=w':=by
 have hw:wrap64 (-b)=-b:=IntWalk.wrap64_in _ ⟨by omega,by omega⟩
 by_cases h1:-b≤a
 all_goals
  go_enter Tryz.func237,Tryz.ntmps237
  go_wp2
  go_ret
  exact ⟨ret_bool (by rw [inH_eq];simp <;> omega),rfl⟩
def dn (z:Int):Int:=z/65536
theorem ldown_any (z:Int) (w:World):Calls Tryz.prog 291 #[.int .i64 z] w fun e w'=>e=.returned (.int .i64 (dn z))∧w'=w:=by
 go_enter Tryz.func291,Tryz.ntmps291
 go_wp2
 go_ret
 exact ⟨ret_int (by first | rfl|exact shr_16 _ _ rfl),rfl⟩
theorem lr1_any (x:Int) (w:World):Calls Tryz.prog 290 #[.int .i64 x] w fun e w'=>e=.returned (.bool (!inH x 65536))∧w=w':=by
 cases h:inH x 65536
 all_goals
  go_enter Tryz.func290,Tryz.ntmps290
  go_wp2_with (go_at_call 237;(with_reducible refine (lin_any _ _ _ (by decide) (by decide)).mono ?_);rintro e w' ⟨rfl,rfl⟩;rw [h])
  go_ret
  exact ⟨rfl,rfl⟩
end Go.Proofs.YtjbelhpgbcnlmaaGreat
end
section
set_option linter.unusedVariables false
namespace Go.Proofs.YtjbelhpgbcnlmaaGreat
open Go.RowKit
def axF (p d m f:Int):Int:=(65536*p/d-m)/f
def leA (l:List Int):Array Value:=#[.int .i64 (cf l 0),.int .i64 (cf l 1),.int .i64 (cf l 2),.int .i64 (cf l 3),.int .i64 (cf l 4),.int .i64 (cf l 5),.int .i64 (cf l 6)]
def rgL (l:List Int):Bool:=(inH (cf l 0) 2147483648&&inH (cf l 1) 2147483648&&decide (1≤cf l 2)&&decide (cf l 2≤32768))&&!((l.drop 3).any fun x=>!inH x 65536)
def rlC (l:List Int):Int:=if l.length≠7 then 12 else if rgL l=true then 0 else 11
structure LeB (l:List Int):Prop where
 a:-2147483648≤cf l 0∧cf l 0≤2147483648
 b:-2147483648≤cf l 1∧cf l 1≤2147483648
 f:1≤cf l 2∧cf l 2≤32768
 k:∀ i,3≤i→i<l.length→inH (cf l i) 65536=true
theorem rgL_bd {l:List Int} (h:rgL l=true):LeB l:=by
 unfold rgL at h
 simp only [Bool.and_eq_true,inH_iff,decide_eq_true_iff,Bool.not_eq_true',List.any_eq_false] at h
 obtain ⟨⟨⟨⟨a,b⟩,c⟩,d⟩,e⟩:=h
 refine ⟨a,b,⟨c,d⟩,fun i hi hl=>?_⟩
 have hm:cf l i∈l.drop 3:=by
  rw [List.mem_iff_getElem]
  refine ⟨i-3,by rw [List.length_drop];omega,?_⟩
  rw [List.getElem_drop]
  simp [cf,List.getD_eq_getElem?_getD,List.getElem?_eq_getElem hl,show 3+(i-3)=i by omega]
 have:=e _ hm
 simpa using this
theorem Bk.cell7 {w:World} {g:Nat} {t:TypeId} {v0 v1 v2 v3 v4 v5 v6:Value} (h:Bk w g t #[v0,v1,v2,v3,v4,v5,v6]):w.cell? ⟨g,0,none⟩=some v0∧w.cell? ⟨g,1,none⟩=some v1∧w.cell? ⟨g,2,none⟩=some v2∧w.cell? ⟨g,3,none⟩=some v3∧w.cell? ⟨g,4,none⟩=some v4∧w.cell? ⟨g,5,none⟩=some v5∧w.cell? ⟨g,6,none⟩=some v6 :=
 ⟨by rw [h.cell];rfl,by rw [h.cell];rfl,by rw [h.cell];rfl,by rw [h.cell];rfl,by rw [h.cell];rfl,by rw [h.cell];rfl,by rw [h.cell];rfl⟩
set_option maxRecDepth 100000 in
set_option maxHeartbeats 4000000 in
theorem laxis_any (p d m:Int) {v0 v1 v3 v4 v5 v6:Value} (f:Int) (g:Nat) (w:World) (hK:Bk w g 297 #[v0,v1,.int .i64 f,v3,v4,v5,v6]) (hp:-1048576≤p∧p≤1048576) (hd:1≤d∧d≤16) (hm:-2147483648≤m∧m≤2147483648) (hf:1≤f∧f≤32768) :
 Calls Tryz.prog 238 #[.pointer (some ⟨g,0,none⟩),.int .i64 p,.int .i64 d,.int .i64 m] w fun e w'=>e=.returned (.int .i64 (axF p d m f))∧w'=w:=by
 have hQ1:=fun w'=>qfloor_any (65536*p) d w' hd.1 (by omega) ⟨by omega,by omega⟩
 have hb:=div_bd (p:=65536*p) (d:=d) (B:=68719476736) hd.1 (by omega) (by omega) (by decide)
 unfold axF
 generalize 65536*p/d=q at *
 have hQ2:=fun w'=>qfloor_any (q-m) f w' hf.1 (by omega) ⟨by omega,by omega⟩
 obtain ⟨c0,c1,c2,c3,c4,c5,c6⟩:=hK.cell7
 clear c0 c1 c3 c4 c5 c6 hK
 obtain ⟨b0,b1⟩:=hb
 obtain ⟨p0,p1⟩:=hp
 obtain ⟨m0,m1⟩:=hm
 go_enter Tryz.func238,Tryz.ntmps238
 go_wp2_with fail
 refine (hQ1 _).mono ?_
 rintro e w1 ⟨rfl,rfl⟩
 go_wp2_with fail
 refine (hQ2 _).mono ?_
 rintro e w1 ⟨rfl,rfl⟩
 go_wp2_with fail
 go_ret
 exact ⟨rfl,rfl⟩
def farL (l:List Int) (px py d:Int):Bool:=!inH (axF px d (cf l 0) (cf l 2)) 262144||!inH (axF py d (cf l 1) (cf l 2)) 262144
set_option maxRecDepth 100000 in
set_option maxHeartbeats 4000000 in
theorem lfar_any (l:List Int) (px py d:Int) (g:Nat) (w:World) (hK:Bk w g 297 (leA l)) (h:LeB l) (hp:-1048576≤px∧px≤1048576) (hq:-1048576≤py∧py≤1048576) (hd:1≤d∧d≤16) :
 Calls Tryz.prog 236 #[.pointer (some ⟨g,0,none⟩),.int .i64 px,.int .i64 py,.int .i64 d] w fun e w'=>e=.returned (.bool (farL l px py d))∧w=w':=by
 have hA:=laxis_any px d (cf l 0) (cf l 2) g w hK hp hd h.a h.f
 have hB:=laxis_any py d (cf l 1) (cf l 2) g w hK hq hd h.b h.f
 unfold leA at hK
 obtain ⟨c0,c1,c2,c3,c4,c5,c6⟩:=hK.cell7
 clear c2 c3 c4 c5 c6 hK
 unfold farL
 generalize axF px d (cf l 0) (cf l 2)=u at *
 generalize axF py d (cf l 1) (cf l 2)=v at *
 cases h1:inH u 262144
 all_goals
  cases h2:inH v 262144
  all_goals
   go_enter Tryz.func236,Tryz.ntmps236
   go_wp2_with (first
    | (go_at_call 237;(with_reducible refine (lin_any _ _ _ (by decide) (by decide)).mono ?_);rintro e w' ⟨rfl,rfl⟩;first | rw [h1]|rw [h2])
    | (go_at_call 238;(with_reducible refine hA.mono ?_);rintro e w' ⟨rfl,rfl⟩)
    | (go_at_call 238;(with_reducible refine hB.mono ?_);rintro e w' ⟨rfl,rfl⟩))
   go_ret
   exact ⟨rfl,rfl⟩
set_option maxRecDepth 100000 in
set_option maxHeartbeats 8000000 in
theorem lranges_any (l:List Int) (A:Option Addr) (n cp:Nat) (w:World) {B:Nat} (hl:l.length=n) (hcp:n≤cp) (hr:Rd w B A (l.map (Value.int .i64))) :
 Calls Tryz.prog 235 #[.slice A n cp] w fun e w'=>e=.returned (.int .i64 (rlC l))∧w=w':=by
 by_cases hn:n=7
 ·subst hn
  have HZ:Hid (rlC l=if rgL l=true then 0 else 11):=by show _=_;unfold rlC;rw [if_neg (by omega)]
  obtain ⟨b,o,rfl,hb,c0,hc⟩:=lget hl (by decide) hr
  have c1:=hc 1 (by decide)
  have c2:=hc 2 (by decide)
  have hd:Rd w B (some ⟨b,o+3,none⟩) ((l.drop 3).map (Value.int .i64)):=by
   intro k hk
   rw [List.length_map,List.length_drop] at hk
   refine ⟨b,o+3,rfl,hb,?_⟩
   rw [Nat.add_assoc,hc (3+k) (by omega)]
   simp [cf,List.getD_eq_getElem?_getD,List.getElem?_eq_getElem (show 3+k<l.length by omega)]
  have hF:=ctf_lens (fun x=>!inH x 65536) lr1_any (l.drop 3) (some ⟨b,o+3,none⟩) 4 (cp-3) w (by rw [List.length_drop];omega) (by decide) hd
  unfold rgL at HZ
  clear hc hl hr hd
  generalize ((l.drop 3).any fun x=>!inH x 65536)=bb at *
  generalize cf l 0=x0 at *
  generalize cf l 1=x1 at *
  generalize cf l 2=x2 at *
  have hcs:(inH x0 2147483648=false)∨(inH x0 2147483648=true∧inH x1 2147483648=false)∨(inH x0 2147483648=true∧inH x1 2147483648=true∧x2<1)∨(inH x0 2147483648=true∧inH x1 2147483648=true∧1≤x2∧32768<x2)∨(inH x0 2147483648=true∧inH x1 2147483648=true∧1≤x2∧x2≤32768):=by
   cases inH x0 2147483648 <;> cases inH x1 2147483648 <;> simp <;> omega
  rcases hcs with h0|⟨h0,h1⟩|⟨h0,h1,h2⟩|⟨h0,h1,h2,h3⟩|⟨h0,h1,h2,h3⟩
  case inr.inr.inr.inr =>
   have HR:Hid ((if (inH x0 2147483648&&inH x1 2147483648&&decide (1≤x2)&&decide (x2≤32768)&&!bb)=true then (0:Int) else 11)=if bb=true then 11 else 0):=by
    show _=_
    rw [h0,h1,decide_eq_true h2,decide_eq_true h3];cases bb <;> rfl
   cases bb
   all_goals
    go_enter Tryz.func235,Tryz.ntmps235
    go_wp2_with (first
     | (go_at_call 237;(with_reducible refine (lin_any _ _ _ (by decide) (by decide)).mono ?_);rintro e w' ⟨rfl,rfl⟩;first | rw [h0]|rw [h1])
     | (go_at_call 241;(with_reducible refine hF.mono ?_);rintro e w' ⟨rfl,rfl⟩))
    go_ret
    exact ⟨ret_int (by rw [HZ.out,HR.out];rfl),rfl⟩
  all_goals
   have HR:Hid ((if (inH x0 2147483648&&inH x1 2147483648&&decide (1≤x2)&&decide (x2≤32768)&&!bb)=true then (0:Int) else 11)=11):=by
    show _=_
    first
     | (rw [h0];simp;done)
     | (rw [h0,h1];simp;done)
     | (rw [h0,h1,decide_eq_false (by omega)];simp;done)
     | (rw [h0,h1,decide_eq_true h2,decide_eq_false (by omega)];simp;done)
   go_enter Tryz.func235,Tryz.ntmps235
   go_wp2_with (first
    | (go_at_call 237;(with_reducible refine (lin_any _ _ _ (by decide) (by decide)).mono ?_);rintro e w' ⟨rfl,rfl⟩;first | rw [h0]|rw [h1]))
   go_ret
   exact ⟨ret_int (by rw [HZ.out,HR.out]),rfl⟩
 ·have HR:Hid (rlC l=12):=by show _=_;unfold rlC;rw [if_pos (by omega)]
  have hnb:((n:Int) != 7)=true:=by rw [bne_iff_ne];omega
  clear hl hn
  go_enter Tryz.func235,Tryz.ntmps235
  go_wp2_with fail
  all_goals first
   | (go_ret;exact ⟨ret_int HR.out.symm,rfl⟩)
   | (exfalso;omega)
end Go.Proofs.YtjbelhpgbcnlmaaGreat
end
section
set_option linter.unusedVariables false
namespace Go.Proofs.YtjbelhpgbcnlmaaGreat
open Go.RowKit
def leC (l:List Int) (W H:Int):Int:=if rlC l≠0 then rlC l else if szH W H=false then 30 else if (farL l (-1) (-1) 2||farL l (2*W-1) (2*H-1) 2)=true then 11 else 0
structure LeOk (l:List Int) (W H:Int):Prop where
 len:l.length=7
 rg:rgL l=true
 sz:szH W H=true
 f1:farL l (-1) (-1) 2=false
 f2:farL l (2*W-1) (2*H-1) 2=false
theorem rlC_zero {l:List Int}:rlC l=0 ↔ l.length=7∧rgL l=true:=by
 unfold rlC
 by_cases h:l.length=7
 ·cases h2:rgL l <;> simp [h]
 ·simp [h]
theorem leC_zero {l:List Int} {W H:Int}:leC l W H=0 ↔ LeOk l W H:=by
 unfold leC
 constructor
 ·intro h
  by_cases h1:rlC l=0
  ·rw [if_neg (by omega)] at h
   by_cases h2:szH W H=true
   ·rw [if_neg (by rw [h2];simp)] at h
    cases h3:farL l (-1) (-1) 2 <;> cases h4:farL l (2*W-1) (2*H-1) 2 <;> simp [h3,h4] at h
    exact ⟨(rlC_zero.1 h1).1,(rlC_zero.1 h1).2,h2,h3,h4⟩
   ·rw [if_pos (by simpa using h2)] at h;omega
  ·rw [if_pos h1] at h;exact absurd h h1
 ·rintro ⟨h0,h1,h2,h3,h4⟩
  have h5:=rlC_zero.2 ⟨h0,h1⟩
  simp [h5,h2,h3,h4]
def LeR (l:List Int) (W H:Int) (w w':World) (p:Option Addr):Prop :=
 (leC l W H≠0→p=none)∧(leC l W H=0→∃ g,p=some ⟨g,0,none⟩∧w.heap.size≤g∧Bk w' g 297 (leA l))
set_option maxRecDepth 100000 in
set_option maxHeartbeats 8000000 in
theorem lnew_any (l:List Int) (A:Option Addr) (n cp:Nat) (W H:Int) (w:World) {B:Nat} (hl:l.length=n) (hcp:n≤cp) (hr:Rd w B A (l.map (Value.int .i64))) (hB:B≤w.heap.size) :
 Calls Tryz.prog 167 #[.slice A n cp,.int .i64 W,.int .i64 H] w fun e w'=>∃ p,e=.returned (.tuple #[.pointer p,.int .i64 (leC l W H)])∧LeR l W H w w' p∧Below w.heap.size w w':=by
 have hR:=lranges_any l A n cp w hl hcp hr
 have hb0:=Below.refl w.heap.size w
 by_cases h1:rlC l=0
 ·obtain ⟨hlen,hrg⟩:=rlC_zero.1 h1
  obtain rfl:n=7:=by rw [← hl];exact hlen
  rw [h1] at hR
  rcases sz_cases W H with ⟨hs,s0,s1,s2,s3⟩|⟨hs,hc⟩
  ·have hE:leC l W H=if (farL l (-1) (-1) 2||farL l (2*W-1) (2*H-1) 2)=true then 11 else 0:=by unfold leC;rw [if_neg (by omega),if_neg (by rw [hs];simp)]
   have hF1:=fun g w' hk=>lfar_any l (-1) (-1) 2 g w' hk (rgL_bd hrg) (by omega) (by omega) (by omega)
   have hF2:=fun g w' hk=>lfar_any l (2*W-1) (2*H-1) 2 g w' hk (rgL_bd hrg) (by omega) (by omega) (by omega)
   obtain ⟨b,o,rfl,hb,c0,hc⟩:=lget hl (by decide) hr
   have c1:=hc 1 (by decide)
   have c2:=hc 2 (by decide)
   have c3:=hc 3 (by decide)
   have c4:=hc 4 (by decide)
   have c5:=hc 5 (by decide)
   have c6:=hc 6 (by decide)
   have HE:=Lib.hid hE
   simp only [LeR]
   unfold leA at *
   clear hc hl hr h1 hlen hrg hE hs
   generalize farL l (-1) (-1) 2=f1 at *
   generalize farL l (2*W-1) (2*H-1) 2=f2 at *
   generalize leC l W H=EE at *
   generalize cf l 0=x0 at *
   generalize cf l 1=x1 at *
   generalize cf l 2=x2 at *
   generalize cf l 3=x3 at *
   generalize cf l 4=x4 at *
   generalize cf l 5=x5 at *
   generalize cf l 6=x6 at *
   have hL:=((Lie.start w).drew).alloc #[.int .i64 x0,.int .i64 x1,.int .i64 x2,.int .i64 x3,.int .i64 x4,.int .i64 x5,.int .i64 x6] 297
   have hK:=hL.k 0 (by simp)
   simp only [List.getElem_cons_zero] at hK
   have hbz:=hL.bel
   have hsz:w.heap.size≤w.drew.heap.size:=(Lie.start w).drew.sz
   cases f1
   case' false=>cases f2
   all_goals
    go_enter Tryz.func167,Tryz.ntmps167
    go_wp2_with (go_at_call 235;(with_reducible refine hR.mono ?_);rintro e wa ⟨rfl,rfl⟩)
    go_still_tail 22,(by kernel_rfl)
    change wpList _ _ _ _ _ w.drew
    generalize w.drew=wd at *
    go_upto_region 7 with fail
    generalize wd.alloc (.cells #[.int .i64 x0,.int .i64 x1,.int .i64 x2,.int .i64 x3,.int .i64 x4,.int .i64 x5,.int .i64 x6] 297)=w1 at *
    generalize wd.heap.size=gp at *
    clear c0 c1 c2 c3 c4 c5 c6
    go_wp2_with (first
     | (go_at_call 236;(with_reducible refine (hF1 _ _ (by exact hK)).mono ?_);rintro e w' ⟨rfl,rfl⟩)
     | (go_at_call 236;(with_reducible refine (hF2 _ _ (by exact hK)).mono ?_);rintro e w' ⟨rfl,rfl⟩))
    go_returns
    have HE':=HE.out
    simp at HE'
    subst HE'
    first
     | exact ⟨none,rfl,⟨fun _=>rfl,fun h=>absurd h (by decide)⟩,hbz⟩
     | exact ⟨_,rfl,⟨fun h=>absurd rfl h,fun _=>⟨_,rfl,hsz,hK⟩⟩,hbz⟩
  ·have hE:leC l W H=30:=by unfold leC;rw [if_neg (by omega),if_pos hs]
   have HE:=Lib.hid hE
   simp only [LeR]
   clear hl hr h1 hE hs
   generalize leC l W H=EE at *
   rcases hc with h0|⟨h0,h1⟩|⟨h0,h1,h2⟩|⟨h0,h1,h2,h3⟩
   all_goals
    go_enter Tryz.func167,Tryz.ntmps167
    go_wp2_with (go_at_call 235;(with_reducible refine hR.mono ?_);rintro e wa ⟨rfl,rfl⟩)
    go_returns
    exact ⟨none,by rw [HE.out];rfl,⟨fun _=>rfl,fun h=>absurd (HE.out.symm.trans h) (by decide)⟩,hb0⟩
 ·have hE:leC l W H=rlC l:=by unfold leC;rw [if_pos h1]
  have hb:(rlC l != 0)=true:=by simp [h1]
  simp only [LeR,hE]
  have hne:=Lib.hid h1
  clear h1 hl hr hE
  generalize rlC l=c at *
  go_enter Tryz.func167,Tryz.ntmps167
  go_wp2_with (go_at_call 235;(with_reducible refine hR.mono ?_);rintro e wa ⟨rfl,rfl⟩)
  go_returns
  exact ⟨none,rfl,⟨fun _=>rfl,fun h=>absurd h hne.out⟩,hb0⟩
end Go.Proofs.YtjbelhpgbcnlmaaGreat
end
section
set_option linter.unusedVariables false
namespace Go.Proofs.YtjbelhpgbcnlmaaGreat
open Go.RowKit
def leS (x y:Int):Int:=dn (x*x+y*y)
def leG (l:List Int) (x y:Int):Int:=65536+dn (cf l 3*leS x y)+dn (cf l 4*dn (leS x y*leS x y))
def leBd (l:List Int) (x y s o:Int):Int:=dn (x*leG l x y)+dn (o*dn (2*x*y))+dn (s*(leS x y+dn (2*x*x)))
theorem dn_bd {z B:Int} (h:-B≤z) (h':z≤B):-(B/65536)-1≤dn z∧dn z≤B/65536:=by unfold dn;omega
structure BdB (l:List Int) (x y s o:Int):Prop where
 xx:0≤x*x∧x*x≤68719476736
 yy:0≤y*y∧y*y≤68719476736
 S:0≤leS x y∧leS x y≤2097152
 kS:-137438953472≤cf l 3*leS x y∧cf l 3*leS x y≤137438953472
 dS:-2097153≤dn (cf l 3*leS x y)∧dn (cf l 3*leS x y)≤2097152
 SS:0≤leS x y*leS x y∧leS x y*leS x y≤4398046511104
 q:0≤dn (leS x y*leS x y)∧dn (leS x y*leS x y)≤67108864
 kq:-4398046511104≤cf l 4*dn (leS x y*leS x y)∧cf l 4*dn (leS x y*leS x y)≤4398046511104
 dq:-67108865≤dn (cf l 4*dn (leS x y*leS x y))∧dn (cf l 4*dn (leS x y*leS x y))≤67108864
 G:-70000000≤leG l x y∧leG l x y≤70000000
 xG:-18350080000000≤x*leG l x y∧x*leG l x y≤18350080000000
 d1:-280000001≤dn (x*leG l x y)∧dn (x*leG l x y)≤280000000
 xy:-137438953472≤2*x*y∧2*x*y≤137438953472
 dxy:-2097153≤dn (2*x*y)∧dn (2*x*y)≤2097152
 oxy:-137439019008≤o*dn (2*x*y)∧o*dn (2*x*y)≤137439019008
 d2:-2097154≤dn (o*dn (2*x*y))∧dn (o*dn (2*x*y))≤2097153
 x2:0≤2*x*x∧2*x*x≤137438953472
 dx2:0≤dn (2*x*x)∧dn (2*x*x)≤2097152
 st:-274877906944≤s*(leS x y+dn (2*x*x))∧s*(leS x y+dn (2*x*x))≤274877906944
 d3:-4194305≤dn (s*(leS x y+dn (2*x*x)))∧dn (s*(leS x y+dn (2*x*x)))≤4194304
 B:-300000000≤leBd l x y s o∧leBd l x y s o≤300000000
theorem sq_bd {x B:Int} (h:-B≤x) (h':x≤B):0≤x*x∧x*x≤B*B:=by
 have h0:0≤x*x:=by
  rcases Int.le_total 0 x with h|h
  ·exact Int.mul_nonneg h h
  ·have:=Int.mul_nonneg (a:=-x) (b:=-x) (by omega) (by omega);rwa [Int.neg_mul_neg] at this
 exact ⟨h0,(mulbd h h' h h').2⟩
theorem bdB {l:List Int} {x y s o:Int} (hk1:-65536≤cf l 3∧cf l 3≤65536) (hk2:-65536≤cf l 4∧cf l 4≤65536) (hx:-262144≤x∧x≤262144) (hy:-262144≤y∧y≤262144) (hs:-65536≤s∧s≤65536) (ho:-65536≤o∧o≤65536):BdB l x y s o:=by
 have xx:=sq_bd hx.1 hx.2
 have yy:=sq_bd hy.1 hy.2
 have S:0≤leS x y∧leS x y≤2097152:=by unfold leS dn;omega
 have kS:=mulbd hk1.1 hk1.2 (show -2097152≤leS x y by omega) S.2
 have dS:=dn_bd kS.1 kS.2
 have SS:=sq_bd (show -2097152≤leS x y by omega) S.2
 have q:0≤dn (leS x y*leS x y)∧dn (leS x y*leS x y)≤67108864:=by unfold dn;omega
 have kq:=mulbd hk2.1 hk2.2 (show -67108864≤dn (leS x y*leS x y) by omega) q.2
 have dq:=dn_bd kq.1 kq.2
 have G:-70000000≤leG l x y∧leG l x y≤70000000:=by unfold leG;omega
 have xG:=mulbd hx.1 hx.2 G.1 G.2
 have d1:=dn_bd xG.1 xG.2
 have xy:=mulbd (show -524288≤2*x by omega) (show 2*x≤524288 by omega) hy.1 hy.2
 have dxy:=dn_bd xy.1 xy.2
 have oxy:=mulbd ho.1 ho.2 (show -2097153≤dn (2*x*y) by omega) (show dn (2*x*y)≤2097153 by omega)
 have d2:=dn_bd oxy.1 oxy.2
 have x2:0≤2*x*x∧2*x*x≤137438953472:=by rw [Int.mul_assoc];omega
 have dx2:0≤dn (2*x*x)∧dn (2*x*x)≤2097152:=by unfold dn;omega
 have st:=mulbd hs.1 hs.2 (show -4194304≤leS x y+dn (2*x*x) by omega) (show leS x y+dn (2*x*x)≤4194304 by omega)
 have d3:=dn_bd st.1 st.2
 have B:-300000000≤leBd l x y s o∧leBd l x y s o≤300000000:=by unfold leBd;omega
 exact ⟨by omega,by omega,S,by omega,by omega,by omega,q,by omega,by omega,G,by omega,by omega,by omega,by omega,by omega,by omega,x2,dx2,by omega,by omega,B⟩
set_option maxRecDepth 100000 in
set_option maxHeartbeats 8000000 in
theorem lbend_any (l:List Int) (x y s o:Int) (g:Nat) (w:World) (hK:Bk w g 297 (leA l)) (hk1:-65536≤cf l 3∧cf l 3≤65536) (hk2:-65536≤cf l 4∧cf l 4≤65536) (hx:-262144≤x∧x≤262144) (hy:-262144≤y∧y≤262144) (hs:-65536≤s∧s≤65536) (ho:-65536≤o∧o≤65536) :
 Calls Tryz.prog 239 #[.pointer (some ⟨g,0,none⟩),.int .i64 x,.int .i64 y,.int .i64 s,.int .i64 o] w fun e w'=>e=.returned (.int .i64 (leBd l x y s o))∧∃ m,w'=w.drewN m:=by
 obtain ⟨⟨xx0,xx1⟩,⟨yy0,yy1⟩,⟨S0,S1⟩,⟨kS0,kS1⟩,⟨dS0,dS1⟩,⟨SS0,SS1⟩,⟨q0,q1⟩,⟨kq0,kq1⟩,⟨dq0,dq1⟩,⟨G0,G1⟩,⟨xG0,xG1⟩,⟨d10,d11⟩,⟨xy0,xy1⟩,⟨dxy0,dxy1⟩,⟨oxy0,oxy1⟩,⟨d20,d21⟩,⟨x20,x21⟩,⟨dx20,dx21⟩,⟨st0,st1⟩,⟨d30,d31⟩,⟨B0,B1⟩⟩:=bdB (l:=l) (x:=x) (y:=y) (s:=s) (o:=o) hk1 hk2 hx hy hs ho
 have hD:=fun z w'=>(ldown_any z w').mono (R':=fun e w''=>e=.returned (.int .i64 (dn z))∧w'=w'') fun e w'' ⟨h1,h2⟩=>⟨h1,h2.symm⟩
 unfold leA at hK
 obtain ⟨c0,c1,c2,c3,c4,c5,c6⟩:=hK.cell7
 clear c0 c1 c2 c5 c6 hK
 obtain ⟨hx0,hx1⟩:=hx
 unfold leBd at *
 have ES:dn (x*x+y*y)=leS x y:=rfl
 have EG:65536+dn (cf l 3*leS x y)+dn (cf l 4*dn (leS x y*leS x y))=leG l x y:=rfl
 have hD0:=fun w'=>hD (x*x+y*y) w'
 rw [ES] at hD0
 have HG:=Lib.hid EG
 clear ES EG hk1 hk2 hy hs ho
 generalize leG l x y=G at *
 generalize leS x y=S at *
 generalize cf l 3=k1 at *
 generalize cf l 4=k2 at *
 have w1:IntKind.i64.wrap (k1*S)=k1*S:=IntWalk.i64_in _ ⟨by omega,by omega⟩
 have w2:IntKind.i64.wrap (S*S)=S*S:=IntWalk.i64_in _ ⟨by omega,by omega⟩
 have hA:=fun w'=>ldown_any (k1*S) w'
 have hB:=fun w'=>ldown_any (S*S) w'
 generalize dn (S*S)=q at *
 have w3:IntKind.i64.wrap (k2*q)=k2*q:=IntWalk.i64_in _ ⟨by omega,by omega⟩
 have hC:=fun w'=>ldown_any (k2*q) w'
 generalize dn (k1*S)=a1 at *
 generalize dn (k2*q)=a2 at *
 have w4:IntKind.i64.wrap (65536+a1)=65536+a1:=IntWalk.i64_in _ ⟨by omega,by omega⟩
 have w5:IntKind.i64.wrap (65536+a1+a2)=G:=by rw [HG.out];exact IntWalk.i64_in _ ⟨by omega,by omega⟩
 go_enter Tryz.func239,Tryz.ntmps239
 go_wp2_with fail
 refine (hD0 _).mono ?_
 rintro e w1 ⟨rfl,rfl⟩
 go_upto_region 2 with fail
 go_quiet ((go_at_call 291;first | with_reducible exact Calls.quiet_of_same (hA _)|with_reducible exact Calls.quiet_of_same (hB _)|with_reducible exact Calls.quiet_of_same (hC _)))
 clear w1 w2 w3 w4 w5 c3 c4 hA hB hC
 go_wp2_with fail
 refine (hD (x*G) _).mono ?_
 rintro e w1 ⟨rfl,rfl⟩
 go_wp2_with fail
 refine (hD (2*x*y) _).mono ?_
 rintro e w1 ⟨rfl,rfl⟩
 go_wp2_with fail
 refine (hD (o*dn (2*x*y)) _).mono ?_
 rintro e w1 ⟨rfl,rfl⟩
 go_wp2_with fail
 refine (hD (2*x*x) _).mono ?_
 rintro e w1 ⟨rfl,rfl⟩
 go_wp2_with fail
 refine (hD (s*(S+dn (2*x*x))) _).mono ?_
 rintro e w1 ⟨rfl,rfl⟩
 go_wp2_with fail
 go_ret
 exact ⟨rfl,_,rfl⟩
end Go.Proofs.YtjbelhpgbcnlmaaGreat
end
section
set_option linter.unusedVariables false
namespace Go.Proofs.YtjbelhpgbcnlmaaGreat
open Go.RowKit
def leX (l:List Int) (px d:Int):Int:=axF px d (cf l 0) (cf l 2)
def leY (l:List Int) (py d:Int):Int:=axF py d (cf l 1) (cf l 2)
def leU (l:List Int) (px py d:Int):Int:=cf l 0+cf l 2*leBd l (leX l px d) (leY l py d) (cf l 6) (cf l 5)
def leV (l:List Int) (px py d:Int):Int:=cf l 1+cf l 2*leBd l (leY l py d) (leX l px d) (cf l 5) (cf l 6)
def leIs (l:List Int) (px py d:Int):Bool:=rightH px py d&&!farL l px py d
def leAns (l:List Int) (px py d:Int):Value:=if leIs l px py d=true then .tuple #[.int .i64 (leU l px py d),.int .i64 (leV l px py d),.int .i64 0] else .tuple #[.int .i64 0,.int .i64 0,.int .i64 11]
theorem farL_no {l:List Int} {px py d:Int} (h:farL l px py d=false):(-262144≤leX l px d∧leX l px d≤262144)∧(-262144≤leY l py d∧leY l py d≤262144):=by
 unfold farL at h
 rw [Bool.or_eq_false_iff,Bool.not_eq_false',Bool.not_eq_false',inH_iff,inH_iff] at h
 exact h
theorem le_k {l:List Int} (h:LeB l) (hl:l.length=7):(-65536≤cf l 3∧cf l 3≤65536)∧(-65536≤cf l 4∧cf l 4≤65536)∧(-65536≤cf l 5∧cf l 5≤65536)∧(-65536≤cf l 6∧cf l 6≤65536) :=
 ⟨inH_iff.1 (h.k 3 (by omega) (by omega)),inH_iff.1 (h.k 4 (by omega) (by omega)),inH_iff.1 (h.k 5 (by omega) (by omega)),inH_iff.1 (h.k 6 (by omega) (by omega))⟩
set_option maxRecDepth 100000 in
set_option maxHeartbeats 8000000 in
theorem lat_nil (x y d:Int) (w:World):Calls Tryz.prog 168 #[.pointer none,.int .i64 x,.int .i64 y,.int .i64 d] w fun e w' =>
 e=.returned (.tuple #[.int .i64 0,.int .i64 0,.int .i64 10])∧w=w':=by
 go_enter Tryz.func168,Tryz.ntmps168
 go_wp2_with fail
 go_returns
 exact ⟨rfl,rfl⟩
set_option maxRecDepth 100000 in
set_option maxHeartbeats 16000000 in
theorem lat_any (l:List Int) (g:Nat) (px py d:Int) (w:World) (hK:Bk w g 297 (leA l)) (h:LeB l) (hl:l.length=7) :
 Calls Tryz.prog 168 #[.pointer (some ⟨g,0,none⟩),.int .i64 px,.int .i64 py,.int .i64 d] w fun e w' =>
  e=.returned (leAns l px py d)∧Below w.heap.size w w':=by
 have hb0:=Below.refl w.heap.size w
 rcases right_cases px py d with ⟨hp,h0,h1,h2,h3⟩|⟨hp,hc⟩
 ·have i0:=inH_iff.1 h0
  have i1:=inH_iff.1 h1
  have hF:=lfar_any l px py d g w hK h i0 i1 ⟨h2,h3⟩
  cases hf:farL l px py d
  ·have HA:Hid (leAns l px py d=.tuple #[.int .i64 (leU l px py d),.int .i64 (leV l px py d),.int .i64 0]):=by show _=_;unfold leAns leIs;rw [if_pos (by rw [hp,hf];rfl)]
   obtain ⟨bx,hby⟩:=farL_no hf
   obtain ⟨k3,k4,k5,k6⟩:=le_k h hl
   rw [hf] at hF
   have hX:=fun w' (hk:Bk w' g 297 (leA l))=>laxis_any px d (cf l 0) (cf l 2) g w' hk i0 ⟨h2,h3⟩ h.a h.f
   have hY:=fun w' (hk:Bk w' g 297 (leA l))=>laxis_any py d (cf l 1) (cf l 2) g w' hk i1 ⟨h2,h3⟩ h.b h.f
   have eX:axF px d (cf l 0) (cf l 2)=leX l px d:=rfl
   have eY:axF py d (cf l 1) (cf l 2)=leY l py d:=rfl
   rw [eX] at hX
   rw [eY] at hY
   have hB1:=fun w' (hk:Bk w' g 297 (leA l))=>lbend_any l (leX l px d) (leY l py d) (cf l 6) (cf l 5) g w' hk k3 k4 bx hby k6 k5
   have hB2:=fun w' (hk:Bk w' g 297 (leA l))=>lbend_any l (leY l py d) (leX l px d) (cf l 5) (cf l 6) g w' hk k3 k4 hby bx k5 k6
   have bd1:=(bdB (l:=l) (s:=cf l 6) (o:=cf l 5) k3 k4 bx hby k6 k5).B
   have bd2:=(bdB (l:=l) (s:=cf l 5) (o:=cf l 6) k3 k4 hby bx k5 k6).B
   have m1:=mulbd (show -32768≤cf l 2 by have:=h.f;omega) h.f.2 bd1.1 bd1.2
   have m2:=mulbd (show -32768≤cf l 2 by have:=h.f;omega) h.f.2 bd2.1 bd2.2
   have ha:=h.a
   have hb:=h.b
   unfold leU leV at HA
   unfold leA at *
   clear eX eY hp h i0 i1 hf bx hby k3 k4 k5 k6 bd1 bd2 hl
   generalize leBd l (leX l px d) (leY l py d) (cf l 6) (cf l 5)=P at *
   generalize leBd l (leY l py d) (leX l px d) (cf l 5) (cf l 6)=Q at *
   generalize leX l px d=x at *
   generalize leY l py d=y at *
   generalize cf l 0=x0 at *
   generalize cf l 1=x1 at *
   generalize cf l 2=x2 at *
   generalize cf l 3=x3 at *
   generalize cf l 4=x4 at *
   generalize cf l 5=x5 at *
   generalize cf l 6=x6 at *
   have e1:IntKind.i64.wrap (x2*P)=x2*P:=IntWalk.i64_in _ ⟨by omega,by omega⟩
   have e2:IntKind.i64.wrap (x2*Q)=x2*Q:=IntWalk.i64_in _ ⟨by omega,by omega⟩
   have e3:IntKind.i64.wrap (x0+x2*P)=x0+x2*P:=IntWalk.i64_in _ ⟨by omega,by omega⟩
   have e4:IntKind.i64.wrap (x1+x2*Q)=x1+x2*Q:=IntWalk.i64_in _ ⟨by omega,by omega⟩
   clear ha hb m1 m2
   obtain ⟨c0,c1,c2,c3,c4,c5,c6⟩:=hK.cell7
   go_enter Tryz.func168,Tryz.ntmps168
   go_wp2_with (first
    | (go_at_call 237;(with_reducible refine (lin_any _ _ _ (by decide) (by decide)).mono ?_);rintro e w' ⟨rfl,rfl⟩;first | rw [h0]|rw [h1])
    | (go_at_call 236;(with_reducible refine hF.mono ?_);rintro e w' ⟨rfl,rfl⟩))
   go_quiet ((go_at_call 238;first | with_reducible exact Calls.quiet_of_same (hX _ (by exact hK.drewN _))|with_reducible exact Calls.quiet_of_same (hY _ (by exact hK.drewN _))))
   replace hK:=hK.drewN nq
   replace hb0:=below_drewN hb0 nq
   clear c0 c1 c2 c3 c4 c5 c6 hF
   generalize w.drewN nq=w1 at *
   obtain ⟨c0,c1,c2,c3,c4,c5,c6⟩:=hK.cell7
   go_upto_region 7 with fail
   go_quiet ((go_at_call 239;first | with_reducible exact Calls.quiet_of (hB1 _ (by exact hK.drewN _))|with_reducible exact Calls.quiet_of (hB2 _ (by exact hK.drewN _))))
   go_wp2_with fail
   go_returns
   exact ⟨by rw [HA.out];rfl,below_drewN hb0 _⟩
  ·have HA:Hid (leAns l px py d=.tuple #[.int .i64 0,.int .i64 0,.int .i64 11]):=by show _=_;unfold leAns leIs;rw [if_neg (by rw [hf];simp)]
   rw [hf] at hF
   clear hp h hf i0 i1 hK hl
   go_enter Tryz.func168,Tryz.ntmps168
   go_wp2_with (first
    | (go_at_call 237;(with_reducible refine (lin_any _ _ _ (by decide) (by decide)).mono ?_);rintro e w' ⟨rfl,rfl⟩;first | rw [h0]|rw [h1])
    | (go_at_call 236;(with_reducible refine hF.mono ?_);rintro e w' ⟨rfl,rfl⟩))
   go_returns
   exact ⟨by rw [HA.out];rfl,hb0⟩
 ·have HA:Hid (leAns l px py d=.tuple #[.int .i64 0,.int .i64 0,.int .i64 11]):=by show _=_;unfold leAns leIs;rw [if_neg (by rw [hp];simp)]
  clear hp h hl hK
  rcases hc with h0|⟨h0,h1⟩|⟨h0,h1,h2⟩|⟨h0,h1,h2,h3⟩
  all_goals
   go_enter Tryz.func168,Tryz.ntmps168
   go_wp2_with (go_at_call 237;(with_reducible refine (lin_any _ _ _ (by decide) (by decide)).mono ?_);rintro e w' ⟨rfl,rfl⟩;first | rw [h0]|rw [h1])
   go_returns
   exact ⟨by rw [HA.out];rfl,hb0⟩
end Go.Proofs.YtjbelhpgbcnlmaaGreat
end
section
set_option linter.unusedVariables false
namespace Go.Proofs.YtjbelhpgbcnlmaaGreat
open Go.RowKit
theorem rdn20 (z:Int) (w:World) (h:-4611686018427387904≤z) (h':z≤4611686018427387904):Calls Tryz.prog 190 #[.int .i64 z] w fun e w'=>e=.returned (.int .i64 (dn z))∧w'=w:=by
 have hD:=fun w'=>rdown_any z 65536 w' (by omega) ⟨by omega,by omega⟩ (by omega)
 go_enter Tryz.func190,Tryz.ntmps190
 go_wp2_with (go_at_call 185;(with_reducible refine (hD _).mono ?_);rintro e w' ⟨rfl,rfl⟩)
 go_ret
 exact ⟨rfl,rfl⟩
set_option maxHeartbeats 1000000 in
theorem raxis20 (p d m f:Int) (w:World) (hp:-1048576≤p∧p≤1048576) (hd:1≤d∧d≤16) (hm:-2147483648≤m∧m≤2147483648) (hf:1≤f∧f≤32768) :
 Calls Tryz.prog 109 #[.int .i64 p,.int .i64 d,.int .i64 m,.int .i64 f] w fun e w'=>e=.returned (.int .i64 (axF p d m f))∧w'=w:=by
 have hQ1:=fun w'=>rdown_any (65536*p) d w' hd.1 ⟨by omega,by omega⟩ (by omega)
 have hb:=div_bd (p:=65536*p) (d:=d) (B:=68719476736) hd.1 (by omega) (by omega) (by decide)
 unfold axF
 generalize 65536*p/d=q at *
 have hQ2:=fun w'=>rdown_any (q-m) f w' hf.1 ⟨by omega,by omega⟩ (by omega)
 obtain ⟨b0,b1⟩:=hb
 obtain ⟨p0,p1⟩:=hp
 obtain ⟨m0,m1⟩:=hm
 go_enter Tryz.func109,Tryz.ntmps109
 go_wp2_with fail
 refine (hQ1 _).mono ?_
 rintro e w1 ⟨rfl,rfl⟩
 go_wp2_with fail
 refine (hQ2 _).mono ?_
 rintro e w1 ⟨rfl,rfl⟩
 go_wp2_with fail
 go_ret
 exact ⟨rfl,rfl⟩
theorem rgL_iff {l:List Int} (hl:l.length=7):rgL l=true ↔ (inH (cf l 0) 2147483648=true∧inH (cf l 1) 2147483648=true∧1≤cf l 2∧cf l 2≤32768∧∀ i,3≤i→i<7→inH (cf l i) 65536=true):=by
 constructor
 ·intro h
  have hb:=rgL_bd h
  exact ⟨inH_iff.2 hb.a,inH_iff.2 hb.b,hb.f.1,hb.f.2,fun i h1 h2=>hb.k i h1 (by omega)⟩
 ·rintro ⟨h0,h1,h2,h3,h4⟩
  unfold rgL
  simp only [Bool.and_eq_true,decide_eq_true_iff,Bool.not_eq_true',List.any_eq_false]
  refine ⟨⟨⟨⟨h0,h1⟩,h2⟩,h3⟩,fun x hx=>?_⟩
  rw [List.mem_iff_getElem] at hx
  obtain ⟨k,hk,rfl⟩:=hx
  rw [List.length_drop] at hk
  rw [List.getElem_drop]
  have:=h4 (3+k) (by omega) (by omega)
  simp [cf,List.getD_eq_getElem?_getD,List.getElem?_eq_getElem (show 3+k<l.length by omega)] at this
  simp [this]
def ndA (l:List Int) (i:Nat):Int:=axF (-1) 2 (cf l i) (cf l 2)
def ndB (l:List Int) (S:Int) (i:Nat):Int:=axF (2*S-1) 2 (cf l i) (cf l 2)
theorem far_ends {l:List Int} {W H:Int}:(farL l (-1) (-1) 2||farL l (2*W-1) (2*H-1) 2)=(!(inH (ndA l 0) 262144&&inH (ndB l W 0) 262144)||!(inH (ndA l 1) 262144&&inH (ndB l H 1) 262144)):=by
 unfold farL ndA ndB
 cases inH (axF (-1) 2 (cf l 0) (cf l 2)) 262144 <;> cases inH (axF (-1) 2 (cf l 1) (cf l 2)) 262144 <;> cases inH (axF (2*W-1) 2 (cf l 0) (cf l 2)) 262144 <;> cases inH (axF (2*H-1) 2 (cf l 1) (cf l 2)) 262144 <;> rfl
def okE (l:List Int) (W H:Int) (i:Nat):Bool:=if i=0 then inH (ndA l 0) 262144&&inH (ndB l W 0) 262144 else inH (ndA l 1) 262144&&inH (ndB l H 1) 262144
set_option maxRecDepth 100000 in
set_option maxHeartbeats 8000000 in
theorem rcheck20 (l:List Int) (A:Option Addr) (n cp:Nat) (W H:Int) (w:World) {B:Nat} (hl:l.length=n) (hr:Rd w B A (l.map (Value.int .i64))) (hB:B≤w.heap.size) :
 Calls Tryz.prog 52 #[.slice A n cp,.int .i64 W,.int .i64 H] w fun e w'=>e=.returned (.int .i64 (leC l W H))∧Below w.heap.size w w':=by
 have hb0:=Below.refl w.heap.size w
 by_cases hn:n=7
 ·subst hn
  obtain ⟨b,o,rfl,hb,c0,hc⟩:=lget hl (by decide) hr
  have c1:=hc 1 (by decide)
  have c2:=hc 2 (by decide)
  have hcs:(inH (cf l 0) 2147483648=false)∨(inH (cf l 0) 2147483648=true∧inH (cf l 1) 2147483648=false)∨(inH (cf l 0) 2147483648=true∧inH (cf l 1) 2147483648=true∧cf l 2<1)∨(inH (cf l 0) 2147483648=true∧inH (cf l 1) 2147483648=true∧1≤cf l 2∧32768<cf l 2)∨(inH (cf l 0) 2147483648=true∧inH (cf l 1) 2147483648=true∧1≤cf l 2∧cf l 2≤32768):=by
   cases inH (cf l 0) 2147483648 <;> cases inH (cf l 1) 2147483648 <;> simp <;> omega
  have hrl:¬rgL l=true→leC l W H=11:=fun h=>by
   have:rlC l=11:=by unfold rlC;rw [if_neg (by omega),if_neg h]
   unfold leC;rw [this];rfl
  rcases hcs with h0|⟨h0,h1⟩|⟨h0,h1,h2⟩|⟨h0,h1,h2,h3⟩|⟨h0,h1,h2,h3⟩
  case inr.inr.inr.inr =>
   have ha:=inH_iff.1 h0
   have hb':=inH_iff.1 h1
   have hbw:b<w.heap.size:=Nat.lt_of_lt_of_le hb hB
   have HLn:=Lib.hid hl
   have HCc:=Lib.hid hc
   clear hl hc
   go_enter Tryz.func52,Tryz.ntmps52
   go_wp2_with (first
    | (go_at_call 102;(with_reducible refine (rin_any _ _ _ (by decide) (by decide)).mono ?_);rintro e w' ⟨rfl,rfl⟩;first | rw [h0]|rw [h1]))
   go_loop [7] (fun kv=>∃ k:Nat,3≤k∧k≤7∧kv=.int .i64 k∧Hid (∀ i,3≤i→i<k→inH (cf l i) 65536=true)) (fun kv=>7-(intOf kv).toNat)
   case atStart=>exact ⟨3,by omega,by omega,rfl,by intro i h1 h2;omega⟩
   case round =>
    obtain ⟨k,hk3,hk,rfl,hall⟩:=hrel
    by_cases hlt:k<7
    ·have ck:=HCc.out k hlt
     cases hi:inH (cf l k) 65536
     ·have HR:=Lib.hid (hrl (fun h=>by
       have:=((rgL_iff HLn.out).1 h).2.2.2.2 k hk3 hlt
       rw [hi] at this;cases this))
      clear hrl hall
      generalize cf l k=x at *
      go_wp2_with (go_at_call 102;(with_reducible refine (rin_any _ _ _ (by decide) (by decide)).mono ?_);rintro e w' ⟨rfl,rfl⟩;rw [hi])
      go_ret
      exact ⟨ret_int HR.out.symm,hb0⟩
     ·have HN:Hid (∀ i,3≤i→i<k+1→inH (cf l i) 65536=true):=by
       intro i h3 h4
       by_cases e:i=k
       ·rw [e];exact hi
       ·exact hall.out i h3 (by omega)
      clear hrl hall
      generalize cf l k=x at *
      go_wp2_with (go_at_call 102;(with_reducible refine (rin_any _ _ _ (by decide) (by decide)).mono ?_);rintro e w' ⟨rfl,rfl⟩;rw [hi])
      exact ⟨⟨k+1,by omega,by omega,by go_num,HN⟩,by simp [intOf];omega⟩
    obtain rfl:k=7:=by omega
    have hrg:rgL l=true:=(rgL_iff HLn.out).2 ⟨h0,h1,h2,h3,hall.out⟩
    have hr0:rlC l=0:=rlC_zero.2 ⟨HLn.out,hrg⟩
    clear hall hrg hlt hk hk3 hrl
    rcases sz_cases W H with ⟨hs,s0,s1,s2,s3⟩|⟨hs,hcs2⟩
    ·have Hz:Hid (leC l W H=if (farL l (-1) (-1) 2||farL l (2*W-1) (2*H-1) 2)=true then 11 else 0):=by
      show _=_;unfold leC;rw [if_neg (by omega),if_neg (by rw [hs];simp)]
     clear hs hr0
     have hb:=hb'
     clear hb'
     go_wp2_with fail
     go_loopw [8,9] (fun kv _ wr=>∃ k:Nat,k≤2∧kv=.int .i64 k∧(∀ i,i<k→okE l W H i=true)∧Below w.heap.size w wr) (fun kv _ _=>2-(intOf kv).toNat)
     case atStart=>exact ⟨0,by omega,rfl,fun i hi=>absurd hi (by omega),hb0⟩
     case round =>
      clear hb0
      obtain ⟨k,hk,rfl,hall,hb1⟩:=hrel
      have hb2:=hb1.alloc hb1.size (.cells #[.int .i64 W,.int .i64 H] 3)
      by_cases hlt:k<2
      ·have HA0:=Lib.hid hall
       clear hall
       have hk01:k=0∨k=1:=by omega
       rcases hk01 with rfl|rfl
       ·
        go_upto_region 16 with fail
        have hall:=HA0.out
        clear HA0
        generalize wr.alloc (.cells #[.int .i64 W,.int .i64 H] 3)=w1 at *
        have d0:w1.cell? ⟨b,o,none⟩=some (.int .i64 (cf l 0)):=(hb2.cell (p:=⟨b,o,none⟩) hbw).trans c0
        have d2:w1.cell? ⟨b,o+2,none⟩=some (.int .i64 (cf l 2)):=(hb2.cell (p:=⟨b,o+2,none⟩) hbw).trans c2
        have hX:=fun w'=>raxis20 (-1) 2 (cf l 0) (cf l 2) w' (by omega) (by omega) ha ⟨h2,h3⟩
        have hY:=fun w'=>raxis20 (2*W-1) 2 (cf l 0) (cf l 2) w' (by omega) (by omega) ha ⟨h2,h3⟩
        have hE:okE l W H 0=(inH (ndA l 0) 262144&&inH (ndB l W 0) 262144):=rfl
        have hI1:=fun w'=>(rin_any (ndA l 0) 262144 w' (by decide) (by decide)).mono (R':=fun e w''=>e=.returned (.bool (inH (ndA l 0) 262144))∧w''=w') fun e w'' ⟨q1,q2⟩=>⟨q1,q2.symm⟩
        have hI2:=fun w'=>(rin_any (ndB l W 0) 262144 w' (by decide) (by decide)).mono (R':=fun e w''=>e=.returned (.bool (inH (ndB l W 0) 262144))∧w''=w') fun e w'' ⟨q1,q2⟩=>⟨q1,q2.symm⟩
        have e1:IntKind.i64.wrap (2*W)=2*W:=IntWalk.i64_in _ ⟨by omega,by omega⟩
        have e2:IntKind.i64.wrap (2*W-1)=2*W-1:=IntWalk.i64_in _ ⟨by omega,by omega⟩
        have HC:Hid (okE l W H 0=false→leC l W H=11):=fun h=>by
         rw [Hz.out,far_ends]
         unfold okE at h
         rw [if_pos rfl] at h
         rw [h];simp
        have HA:=Lib.hid hall
        rw [show axF (-1) 2 (cf l 0) (cf l 2)=ndA l 0 from rfl] at hX
        rw [show axF (2*W-1) 2 (cf l 0) (cf l 2)=ndB l W 0 from rfl] at hY
        clear hall hr ha hb
        generalize ndA l 0=u at *
        generalize ndB l W 0=v at *
        cases g1:inH u 262144
        case' true=>cases g2:inH v 262144
        all_goals
         rw [g1] at hE hI1
         try rw [g2] at hE hI2
         simp only [Bool.false_and,Bool.and_self,Bool.and_false] at hE
         have HE:=Lib.hid hE
         clear hE
         go_quiet ((first
          | (go_at_call 109;first | with_reducible exact Calls.quiet_of_same (hX _)|with_reducible exact Calls.quiet_of_same (hY _))
          | (go_at_call 102;first | with_reducible exact Calls.quiet_of_same (hI1 _)|with_reducible exact Calls.quiet_of_same (hI2 _))))
         go_wp2_with fail
         first
          | (go_ret;exact ⟨ret_int (HC.out HE.out).symm,below_drewN hb2 _⟩)
          | exact ⟨⟨1,by omega,rfl,fun i hi=>by
             by_cases e:i=0
             ·subst e;exact HE.out
             ·exact HA.out i (by omega),below_drewN hb2 _⟩,by simp [intOf]⟩
       ·
        go_upto_region 16 with fail
        have hall:=HA0.out
        clear HA0
        generalize wr.alloc (.cells #[.int .i64 W,.int .i64 H] 3)=w1 at *
        have d0:w1.cell? ⟨b,o+1,none⟩=some (.int .i64 (cf l 1)):=(hb2.cell (p:=⟨b,o+1,none⟩) hbw).trans c1
        have d2:w1.cell? ⟨b,o+2,none⟩=some (.int .i64 (cf l 2)):=(hb2.cell (p:=⟨b,o+2,none⟩) hbw).trans c2
        have hX:=fun w'=>raxis20 (-1) 2 (cf l 1) (cf l 2) w' (by omega) (by omega) hb ⟨h2,h3⟩
        have hY:=fun w'=>raxis20 (2*H-1) 2 (cf l 1) (cf l 2) w' (by omega) (by omega) hb ⟨h2,h3⟩
        have hE:okE l W H 1=(inH (ndA l 1) 262144&&inH (ndB l H 1) 262144):=rfl
        have hI1:=fun w'=>(rin_any (ndA l 1) 262144 w' (by decide) (by decide)).mono (R':=fun e w''=>e=.returned (.bool (inH (ndA l 1) 262144))∧w''=w') fun e w'' ⟨q1,q2⟩=>⟨q1,q2.symm⟩
        have hI2:=fun w'=>(rin_any (ndB l H 1) 262144 w' (by decide) (by decide)).mono (R':=fun e w''=>e=.returned (.bool (inH (ndB l H 1) 262144))∧w''=w') fun e w'' ⟨q1,q2⟩=>⟨q1,q2.symm⟩
        have e1:IntKind.i64.wrap (2*H)=2*H:=IntWalk.i64_in _ ⟨by omega,by omega⟩
        have e2:IntKind.i64.wrap (2*H-1)=2*H-1:=IntWalk.i64_in _ ⟨by omega,by omega⟩
        have HC:Hid (okE l W H 1=false→leC l W H=11):=fun h=>by
         rw [Hz.out,far_ends]
         unfold okE at h
         rw [if_neg (by decide)] at h
         rw [h];simp
        have HA:=Lib.hid hall
        rw [show axF (-1) 2 (cf l 1) (cf l 2)=ndA l 1 from rfl] at hX
        rw [show axF (2*H-1) 2 (cf l 1) (cf l 2)=ndB l H 1 from rfl] at hY
        clear hall hr ha hb
        generalize ndA l 1=u at *
        generalize ndB l H 1=v at *
        cases g1:inH u 262144
        case' true=>cases g2:inH v 262144
        all_goals
         rw [g1] at hE hI1
         try rw [g2] at hE hI2
         simp only [Bool.false_and,Bool.and_self,Bool.and_false] at hE
         have HE:=Lib.hid hE
         clear hE
         go_quiet ((first
          | (go_at_call 109;first | with_reducible exact Calls.quiet_of_same (hX _)|with_reducible exact Calls.quiet_of_same (hY _))
          | (go_at_call 102;first | with_reducible exact Calls.quiet_of_same (hI1 _)|with_reducible exact Calls.quiet_of_same (hI2 _))))
         go_wp2_with fail
         first
          | (go_ret;exact ⟨ret_int (HC.out HE.out).symm,below_drewN hb2 _⟩)
          | exact ⟨⟨2,by omega,rfl,fun i hi=>by
             by_cases e:i=1
             ·subst e;exact HE.out
             ·exact HA.out i (by omega),below_drewN hb2 _⟩,by simp [intOf]⟩
      ·obtain rfl:k=2:=by omega
       have HR:Hid (leC l W H=0):=by
        have k0:=hall 0 (by decide)
        have k1:=hall 1 (by decide)
        unfold okE at k0 k1
        rw [if_pos rfl] at k0
        rw [if_neg (by decide)] at k1
        show _=_
        rw [Hz.out,far_ends,k0,k1];rfl
       clear hall
       go_wp2_with fail
       go_ret
       exact ⟨ret_int HR.out.symm,hb1⟩
    ·have HR:Hid (leC l W H=30):=by show _=_;unfold leC;rw [if_neg (by omega),if_pos hs]
     clear hs hr0 hr
     rcases hcs2 with q0|⟨q0,q1⟩|⟨q0,q1,q2⟩|⟨q0,q1,q2,q3⟩
     all_goals
      go_wp2_with fail
      go_ret
      exact ⟨ret_int HR.out.symm,hb0⟩
  all_goals
   have HR:=Lib.hid (hrl (by
    intro h
    obtain ⟨k0,k1,k2,k3,_⟩:=(rgL_iff hl).1 h
    first
     | (rw [h0] at k0;cases k0;done)
     | (rw [h1] at k1;cases k1;done)
     | omega))
   clear hrl hc hl hr
   generalize leC l W H=EE at *
   generalize cf l 0=x0 at *
   generalize cf l 1=x1 at *
   generalize cf l 2=x2 at *
   go_enter Tryz.func52,Tryz.ntmps52
   go_wp2_with (first
    | (go_at_call 102;(with_reducible refine (rin_any _ _ _ (by decide) (by decide)).mono ?_);rintro e w' ⟨rfl,rfl⟩;first | rw [h0]|rw [h1]))
   go_ret
   exact ⟨ret_int HR.out.symm,hb0⟩
 ·have HR:Hid (leC l W H=12):=by
   have h1:rlC l=12:=by unfold rlC;rw [if_pos (by omega)]
   show _=_
   unfold leC;rw [h1];rfl
  have hnb:((n:Int) != 7)=true:=by rw [bne_iff_ne];omega
  clear hl hn
  go_enter Tryz.func52,Tryz.ntmps52
  go_wp2_with fail
  all_goals first
   | (go_ret;exact ⟨ret_int HR.out.symm,hb0⟩)
   | (exfalso;omega)
end Go.Proofs.YtjbelhpgbcnlmaaGreat
end
section
set_option linter.unusedVariables false
namespace Go.Proofs.YtjbelhpgbcnlmaaGreat
open Go.RowKit
theorem leS_comm (x y:Int):leS y x=leS x y:=by unfold leS;rw [Int.add_comm]
theorem leBd_eq (l:List Int) (x y s o:Int):leBd l x y s o=dn (x*leG l x y)+dn (o*dn (2*x*y))+dn (s*(leS x y+dn (2*x*x))):=rfl
theorem leBd_swap (l:List Int) (x y s o:Int):leBd l y x s o=dn (y*leG l x y)+dn (s*(leS x y+dn (2*y*y)))+dn (o*dn (2*x*y)):=by
 have h1:leG l y x=leG l x y:=by unfold leG;rw [leS_comm]
 have h2:2*y*x=2*x*y:=by rw [Int.mul_assoc,Int.mul_comm y x,Int.mul_assoc]
 unfold leBd
 rw [h1,h2,leS_comm,Int.add_right_comm]
set_option maxRecDepth 100000 in
set_option maxHeartbeats 8000000 in
theorem rat20_no (l:List Int) (A:Option Addr) (cp:Nat) (px py d:Int) (w:World) {B:Nat} (hl:l.length=7) (h:LeB l) (hr:Rd w B A (l.map (Value.int .i64))) (hp:rightH px py d=true) (hf:farL l px py d=true) :
 Calls Tryz.prog 116 #[.slice A 7 cp,.int .i64 px,.int .i64 py,.int .i64 d] w fun e w'=>e=.returned (.tuple #[.int .i64 0,.int .i64 0,.bool false])∧Below w.heap.size w w':=by
 have hb0:=Below.refl w.heap.size w
 obtain ⟨b,o,rfl,hb,c0,hc⟩:=lget hl (by decide) hr
 have c1:=hc 1 (by decide)
 have c2:=hc 2 (by decide)
 obtain ⟨a0,a1,a2,a3⟩:=rightH_iff.1 hp
 have hX:=fun w'=>raxis20 px d (cf l 0) (cf l 2) w' a0 ⟨a2,a3⟩ h.a h.f
 have hY:=fun w'=>raxis20 py d (cf l 1) (cf l 2) w' a1 ⟨a2,a3⟩ h.b h.f
 unfold farL at hf
 clear hc hr hl h hp
 generalize axF px d (cf l 0) (cf l 2)=x at *
 generalize axF py d (cf l 1) (cf l 2)=y at *
 generalize cf l 0=x0 at *
 generalize cf l 1=x1 at *
 generalize cf l 2=x2 at *
 cases h0:inH x 262144
 case' true =>
  have h1:inH y 262144=false:=by rw [h0] at hf;simpa using hf
 all_goals
  clear hf
  go_enter Tryz.func116,Tryz.ntmps116
  go_upto_region 1 with fail
  go_quiet ((go_at_call 109;with_reducible exact Calls.quiet_of_same (hX _)))
  replace c1:(w.drewN nq).cell? ⟨b,o+1,none⟩=some (.int .i64 x1):=c1
  replace c2:(w.drewN nq).cell? ⟨b,o+2,none⟩=some (.int .i64 x2):=c2
  replace hb0:=below_drewN hb0 nq
  clear c0
  generalize w.drewN nq=w1 at *
  go_upto_region 2 with fail
  go_quiet ((go_at_call 109;with_reducible exact Calls.quiet_of_same (hY _)))
  replace hb0:=below_drewN hb0 nq
  clear c1 c2
  generalize w1.drewN nq=w2 at *
  go_wp2_with (first
   | (go_at_call 102;(with_reducible refine (rin_any _ _ _ (by decide) (by decide)).mono ?_);rintro e w' ⟨rfl,rfl⟩;first | rw [h0]|rw [h1]))
  go_returns
  exact ⟨rfl,hb0⟩
set_option maxRecDepth 100000 in
set_option maxHeartbeats 16000000 in
theorem rat20_yes (l:List Int) (A:Option Addr) (cp:Nat) (px py d:Int) (w:World) {B:Nat} (hl:l.length=7) (h:LeB l) (hr:Rd w B A (l.map (Value.int .i64))) (hp:rightH px py d=true) (hf:farL l px py d=false) :
 Calls Tryz.prog 116 #[.slice A 7 cp,.int .i64 px,.int .i64 py,.int .i64 d] w fun e w'=>e=.returned (.tuple #[.int .i64 (leU l px py d),.int .i64 (leV l px py d),.bool true])∧Below w.heap.size w w':=by
 have hb0:=Below.refl w.heap.size w
 obtain ⟨b,o,rfl,hb,c0,hc⟩:=lget hl (by decide) hr
 have c1:=hc 1 (by decide)
 have c2:=hc 2 (by decide)
 have c3:=hc 3 (by decide)
 have c4:=hc 4 (by decide)
 have c5:=hc 5 (by decide)
 have c6:=hc 6 (by decide)
 obtain ⟨a0,a1,a2,a3⟩:=rightH_iff.1 hp
 have hX:=fun w'=>raxis20 px d (cf l 0) (cf l 2) w' a0 ⟨a2,a3⟩ h.a h.f
 have hY:=fun w'=>raxis20 py d (cf l 1) (cf l 2) w' a1 ⟨a2,a3⟩ h.b h.f
 obtain ⟨bx,hby⟩:=farL_no hf
 obtain ⟨k3,k4,k5,k6⟩:=le_k h hl
 have B1:=bdB (l:=l) (s:=cf l 6) (o:=cf l 5) k3 k4 bx hby k6 k5
 have B2:=bdB (l:=l) (s:=cf l 5) (o:=cf l 6) k3 k4 hby bx k5 k6
 have m1:=mulbd (show -32768≤cf l 2 by have:=h.f;omega) h.f.2 B1.B.1 B1.B.2
 have m2:=mulbd (show -32768≤cf l 2 by have:=h.f;omega) h.f.2 B2.B.1 B2.B.2
 have ha:=h.a
 have hb':=h.b
 unfold farL at hf
 rw [Bool.or_eq_false_iff,Bool.not_eq_false',Bool.not_eq_false'] at hf
 obtain ⟨h0,h1⟩:=hf
 rw [show axF px d (cf l 0) (cf l 2)=leX l px d from rfl] at h0 hX
 rw [show axF py d (cf l 1) (cf l 2)=leY l py d from rfl] at h1 hY
 have EU:=Lib.hid (show leU l px py d=cf l 0+cf l 2*leBd l (leX l px d) (leY l py d) (cf l 6) (cf l 5) from rfl)
 have EV:=Lib.hid (show leV l px py d=cf l 1+cf l 2*leBd l (leY l py d) (leX l px d) (cf l 5) (cf l 6) from rfl)
 have hdn:=fun z w' h1 h2=>rdn20 z w' h1 h2
 obtain ⟨⟨xx0,xx1⟩,⟨yy0,yy1⟩,⟨S0,S1⟩,⟨kS0,kS1⟩,⟨dS0,dS1⟩,⟨SS0,SS1⟩,⟨q0,q1⟩,⟨kq0,kq1⟩,⟨dq0,dq1⟩,⟨G0,G1⟩,⟨xG0,xG1⟩,⟨d10,d11⟩,⟨xy0,xy1⟩,⟨dxy0,dxy1⟩,⟨oxy0,oxy1⟩,⟨d20,d21⟩,⟨x20,x21⟩,⟨dx20,dx21⟩,⟨st0,st1⟩,⟨d30,d31⟩,_⟩:=B1
 obtain ⟨⟨yG0,yG1⟩,⟨e10,e11⟩,⟨oyx0,oyx1⟩,⟨e20,e21⟩,⟨y20,y21⟩,⟨dy20,dy21⟩,⟨su0,su1⟩,⟨e30,e31⟩⟩:=And.intro B2.xG (And.intro B2.d1 (And.intro B2.oxy (And.intro B2.d2 (And.intro B2.x2 (And.intro B2.dx2 (And.intro B2.st B2.d3))))))
 rw [show leG l (leY l py d) (leX l px d)=leG l (leX l px d) (leY l py d) by unfold leG;rw [leS_comm]] at yG0 yG1 e10 e11
 rw [show 2*leY l py d*leX l px d=2*leX l px d*leY l py d by rw [Int.mul_assoc,Int.mul_comm (leY l py d),Int.mul_assoc]] at oyx0 oyx1 e20 e21
 rw [leS_comm] at su0 su1 e30 e31
 have EB1:=Lib.hid (leBd_eq l (leX l px d) (leY l py d) (cf l 6) (cf l 5))
 have EB2:=Lib.hid (leBd_swap l (leX l px d) (leY l py d) (cf l 5) (cf l 6))
 have ES:dn (leX l px d*leX l px d+leY l py d*leY l py d)=leS (leX l px d) (leY l py d):=rfl
 have EG:=Lib.hid (show 65536+dn (cf l 3*leS (leX l px d) (leY l py d))+dn (cf l 4*dn (leS (leX l px d) (leY l py d)*leS (leX l px d) (leY l py d)))=leG l (leX l px d) (leY l py d) from rfl)
 have hS:=fun w'=>hdn (leX l px d*leX l px d+leY l py d*leY l py d) w' (by omega) (by omega)
 rw [ES] at hS
 clear ES B2 k3 k4 k5 k6 h hl hr hc hp bx hby
 generalize leBd l (leX l px d) (leY l py d) (cf l 6) (cf l 5)=P at *
 generalize leBd l (leY l py d) (leX l px d) (cf l 5) (cf l 6)=Q at *
 generalize leG l (leX l px d) (leY l py d)=G at *
 generalize leS (leX l px d) (leY l py d)=S at *
 generalize leU l px py d=U at *
 generalize leV l px py d=V at *
 generalize leX l px d=x at *
 generalize leY l py d=y at *
 generalize cf l 0=x0 at *
 generalize cf l 1=x1 at *
 generalize cf l 2=x2 at *
 generalize cf l 3=x3 at *
 generalize cf l 4=x4 at *
 generalize cf l 5=x5 at *
 generalize cf l 6=x6 at *
 have hq:=fun w'=>hdn (S*S) w' (by omega) (by omega)
 have hk1:=fun w'=>hdn (x3*S) w' (by omega) (by omega)
 have hxy:=fun w'=>hdn (2*x*y) w' (by omega) (by omega)
 have hxx:=fun w'=>hdn (2*x*x) w' (by omega) (by omega)
 have hyy:=fun w'=>hdn (2*y*y) w' (by omega) (by omega)
 generalize dn (S*S)=q at *
 have hk2:=fun w'=>hdn (x4*q) w' (by omega) (by omega)
 have hxG:=fun w'=>hdn (x*G) w' (by omega) (by omega)
 have hyG:=fun w'=>hdn (y*G) w' (by omega) (by omega)
 generalize dn (2*x*y)=t at *
 generalize dn (2*x*x)=tx at *
 generalize dn (2*y*y)=ty at *
 have h5t:=fun w'=>hdn (x5*t) w' (by omega) (by omega)
 have h6t:=fun w'=>hdn (x6*t) w' (by omega) (by omega)
 have h6x:=fun w'=>hdn (x6*(S+tx)) w' (by omega) (by omega)
 have h5y:=fun w'=>hdn (x5*(S+ty)) w' (by omega) (by omega)
 generalize dn (x3*S)=b1 at *
 generalize dn (x4*q)=b2 at *
 generalize dn (x*G)=u1 at *
 generalize dn (y*G)=v1 at *
 generalize dn (x5*t)=u2 at *
 generalize dn (x6*t)=v3 at *
 generalize dn (x6*(S+tx))=u3 at *
 generalize dn (x5*(S+ty))=v2 at *
 have k1:IntKind.i64.wrap (x3*S)=x3*S:=IntWalk.i64_in _ ⟨by omega,by omega⟩
 have k2:IntKind.i64.wrap (x4*q)=x4*q:=IntWalk.i64_in _ ⟨by omega,by omega⟩
 have k3:IntKind.i64.wrap (65536+b1)=65536+b1:=IntWalk.i64_in _ ⟨by omega,by omega⟩
 have k4:IntKind.i64.wrap (65536+b1+b2)=G:=by rw [← EG.out];exact IntWalk.i64_in _ ⟨by omega,by omega⟩
 have k5:IntKind.i64.wrap (x*G)=x*G:=IntWalk.i64_in _ ⟨by omega,by omega⟩
 have k6:IntKind.i64.wrap (y*G)=y*G:=IntWalk.i64_in _ ⟨by omega,by omega⟩
 have k7:IntKind.i64.wrap (x5*t)=x5*t:=IntWalk.i64_in _ ⟨by omega,by omega⟩
 have k8:IntKind.i64.wrap (x6*t)=x6*t:=IntWalk.i64_in _ ⟨by omega,by omega⟩
 have i0:=inH_iff.1 h0
 have i1:=inH_iff.1 h1
 have k9:IntKind.i64.wrap (2*x)=2*x:=IntWalk.i64_in _ ⟨by omega,by omega⟩
 have k10:IntKind.i64.wrap (2*y)=2*y:=IntWalk.i64_in _ ⟨by omega,by omega⟩
 have k11:IntKind.i64.wrap (2*x*x)=2*x*x:=IntWalk.i64_in _ ⟨by omega,by omega⟩
 have k12:IntKind.i64.wrap (2*y*y)=2*y*y:=IntWalk.i64_in _ ⟨by omega,by omega⟩
 have k13:IntKind.i64.wrap (S+tx)=S+tx:=IntWalk.i64_in _ ⟨by omega,by omega⟩
 have k14:IntKind.i64.wrap (S+ty)=S+ty:=IntWalk.i64_in _ ⟨by omega,by omega⟩
 have k15:IntKind.i64.wrap (x6*(S+tx))=x6*(S+tx):=IntWalk.i64_in _ ⟨by omega,by omega⟩
 have k16:IntKind.i64.wrap (x5*(S+ty))=x5*(S+ty):=IntWalk.i64_in _ ⟨by omega,by omega⟩
 have k17:IntKind.i64.wrap (u1+u2)=u1+u2:=IntWalk.i64_in _ ⟨by omega,by omega⟩
 have k18:IntKind.i64.wrap (u1+u2+u3)=P:=by rw [EB1.out];exact IntWalk.i64_in _ ⟨by omega,by omega⟩
 have k19:IntKind.i64.wrap (v1+v2)=v1+v2:=IntWalk.i64_in _ ⟨by omega,by omega⟩
 have k20:IntKind.i64.wrap (v1+v2+v3)=Q:=by rw [EB2.out];exact IntWalk.i64_in _ ⟨by omega,by omega⟩
 have k21:IntKind.i64.wrap (x2*P)=x2*P:=IntWalk.i64_in _ ⟨by omega,by omega⟩
 have k22:IntKind.i64.wrap (x2*Q)=x2*Q:=IntWalk.i64_in _ ⟨by omega,by omega⟩
 have k23:IntKind.i64.wrap (x0+x2*P)=U:=by rw [EU.out];exact IntWalk.i64_in _ ⟨by omega,by omega⟩
 have k24:IntKind.i64.wrap (x1+x2*Q)=V:=by rw [EV.out];exact IntWalk.i64_in _ ⟨by omega,by omega⟩
 have z1:wrap64 (x*x+y*y)=x*x+y*y:=IntWalk.wrap64_in _ ⟨by omega,by omega⟩
 have z2:wrap64 (S*S)=S*S:=IntWalk.wrap64_in _ ⟨by omega,by omega⟩
 have z3:wrap64 (2*x*y)=2*x*y:=IntWalk.wrap64_in _ ⟨by omega,by omega⟩
 obtain ⟨i00,i01⟩:=i0
 obtain ⟨i10,i11⟩:=i1
 clear hdn EU EV EB1 EB2 EG S0 S1 kS0 kS1 dS0 dS1 SS0 SS1 q0 q1 kq0 kq1 dq0 dq1 G0 G1 xG0 xG1 d10 d11 dxy0 dxy1 oxy0 oxy1 d20 d21 x20 x21 dx20 dx21 st0 st1 d30 d31 yG0 yG1 e10 e11 oyx0 oyx1 e20 e21 y20 y21 dy20 dy21 su0 su1 e30 e31 m1 m2 ha hb'
 go_enter Tryz.func116,Tryz.ntmps116
 have hS':=fun w'=>(hS w').mono (R':=fun e w''=>e=.returned (.int .i64 S)∧w'=w'') fun e w'' ⟨r1,r2⟩=>⟨r1,r2.symm⟩
 have hq':=fun w'=>(hq w').mono (R':=fun e w''=>e=.returned (.int .i64 q)∧w'=w'') fun e w'' ⟨r1,r2⟩=>⟨r1,r2.symm⟩
 have hxy':=fun w'=>(hxy w').mono (R':=fun e w''=>e=.returned (.int .i64 t)∧w'=w'') fun e w'' ⟨r1,r2⟩=>⟨r1,r2.symm⟩
 clear hS hq hxy
 go_upto_region 1 with fail
 go_quiet ((go_at_call 109;with_reducible exact Calls.quiet_of_same (hX _)))
 replace c0:(w.drewN nq).cell? ⟨b,o,none⟩=some (.int .i64 x0):=c0
 replace c1:(w.drewN nq).cell? ⟨b,o+1,none⟩=some (.int .i64 x1):=c1
 replace c2:(w.drewN nq).cell? ⟨b,o+2,none⟩=some (.int .i64 x2):=c2
 replace c3:(w.drewN nq).cell? ⟨b,o+3,none⟩=some (.int .i64 x3):=c3
 replace c4:(w.drewN nq).cell? ⟨b,o+4,none⟩=some (.int .i64 x4):=c4
 replace c5:(w.drewN nq).cell? ⟨b,o+5,none⟩=some (.int .i64 x5):=c5
 replace c6:(w.drewN nq).cell? ⟨b,o+6,none⟩=some (.int .i64 x6):=c6
 replace hb0:=below_drewN hb0 nq
 generalize w.drewN nq=w1 at *
 go_upto_region 2 with fail
 go_quiet ((go_at_call 109;with_reducible exact Calls.quiet_of_same (hY _)))
 replace c0:(w1.drewN nq).cell? ⟨b,o,none⟩=some (.int .i64 x0):=c0
 replace c1:(w1.drewN nq).cell? ⟨b,o+1,none⟩=some (.int .i64 x1):=c1
 replace c2:(w1.drewN nq).cell? ⟨b,o+2,none⟩=some (.int .i64 x2):=c2
 replace c3:(w1.drewN nq).cell? ⟨b,o+3,none⟩=some (.int .i64 x3):=c3
 replace c4:(w1.drewN nq).cell? ⟨b,o+4,none⟩=some (.int .i64 x4):=c4
 replace c5:(w1.drewN nq).cell? ⟨b,o+5,none⟩=some (.int .i64 x5):=c5
 replace c6:(w1.drewN nq).cell? ⟨b,o+6,none⟩=some (.int .i64 x6):=c6
 replace hb0:=below_drewN hb0 nq
 generalize w1.drewN nq=w2 at *
 go_wp2_with (first
  | (go_at_call 102;(with_reducible refine (rin_any _ _ _ (by decide) (by decide)).mono ?_);rintro e w' ⟨rfl,rfl⟩;first | rw [h0]|rw [h1])
  | (go_at_call 190;(with_reducible refine (hS' _).mono ?_);rintro e w' ⟨rfl,rfl⟩)
  | (go_at_call 190;(with_reducible refine (hq' _).mono ?_);rintro e w' ⟨rfl,rfl⟩))
 go_upto_region 7 with fail
 go_quiet ((go_at_call 190;(first | with_reducible exact Calls.quiet_of_same (hk1 _)|with_reducible exact Calls.quiet_of_same (hk2 _)|with_reducible exact Calls.quiet_of_same (hxG _)|with_reducible exact Calls.quiet_of_same (hyG _)|with_reducible exact Calls.quiet_of_same (h5t _)|with_reducible exact Calls.quiet_of_same (h6t _)|with_reducible exact Calls.quiet_of_same (hxx _)|with_reducible exact Calls.quiet_of_same (hyy _)|with_reducible exact Calls.quiet_of_same (h6x _)|with_reducible exact Calls.quiet_of_same (h5y _))))
 replace c0:(w2.drewN nq).cell? ⟨b,o,none⟩=some (.int .i64 x0):=c0
 replace c1:(w2.drewN nq).cell? ⟨b,o+1,none⟩=some (.int .i64 x1):=c1
 replace c2:(w2.drewN nq).cell? ⟨b,o+2,none⟩=some (.int .i64 x2):=c2
 replace c3:(w2.drewN nq).cell? ⟨b,o+3,none⟩=some (.int .i64 x3):=c3
 replace c4:(w2.drewN nq).cell? ⟨b,o+4,none⟩=some (.int .i64 x4):=c4
 replace c5:(w2.drewN nq).cell? ⟨b,o+5,none⟩=some (.int .i64 x5):=c5
 replace c6:(w2.drewN nq).cell? ⟨b,o+6,none⟩=some (.int .i64 x6):=c6
 replace hb0:=below_drewN hb0 nq
 generalize w2.drewN nq=w3 at *
 go_wp2_with (go_at_call 190;(with_reducible refine (hxy' _).mono ?_);rintro e w' ⟨rfl,rfl⟩)
 go_upto_region 9 with fail
 go_quiet ((go_at_call 190;(first | with_reducible exact Calls.quiet_of_same (hk1 _)|with_reducible exact Calls.quiet_of_same (hk2 _)|with_reducible exact Calls.quiet_of_same (hxG _)|with_reducible exact Calls.quiet_of_same (hyG _)|with_reducible exact Calls.quiet_of_same (h5t _)|with_reducible exact Calls.quiet_of_same (h6t _)|with_reducible exact Calls.quiet_of_same (hxx _)|with_reducible exact Calls.quiet_of_same (hyy _)|with_reducible exact Calls.quiet_of_same (h6x _)|with_reducible exact Calls.quiet_of_same (h5y _))))
 replace c0:(w3.drewN nq).cell? ⟨b,o,none⟩=some (.int .i64 x0):=c0
 replace c1:(w3.drewN nq).cell? ⟨b,o+1,none⟩=some (.int .i64 x1):=c1
 replace c2:(w3.drewN nq).cell? ⟨b,o+2,none⟩=some (.int .i64 x2):=c2
 replace c3:(w3.drewN nq).cell? ⟨b,o+3,none⟩=some (.int .i64 x3):=c3
 replace c4:(w3.drewN nq).cell? ⟨b,o+4,none⟩=some (.int .i64 x4):=c4
 replace c5:(w3.drewN nq).cell? ⟨b,o+5,none⟩=some (.int .i64 x5):=c5
 replace c6:(w3.drewN nq).cell? ⟨b,o+6,none⟩=some (.int .i64 x6):=c6
 replace hb0:=below_drewN hb0 nq
 generalize w3.drewN nq=w4 at *
 go_upto_region 10 with fail
 go_quiet ((go_at_call 190;(first | with_reducible exact Calls.quiet_of_same (hk1 _)|with_reducible exact Calls.quiet_of_same (hk2 _)|with_reducible exact Calls.quiet_of_same (hxG _)|with_reducible exact Calls.quiet_of_same (hyG _)|with_reducible exact Calls.quiet_of_same (h5t _)|with_reducible exact Calls.quiet_of_same (h6t _)|with_reducible exact Calls.quiet_of_same (hxx _)|with_reducible exact Calls.quiet_of_same (hyy _)|with_reducible exact Calls.quiet_of_same (h6x _)|with_reducible exact Calls.quiet_of_same (h5y _))))
 replace c0:(w4.drewN nq).cell? ⟨b,o,none⟩=some (.int .i64 x0):=c0
 replace c1:(w4.drewN nq).cell? ⟨b,o+1,none⟩=some (.int .i64 x1):=c1
 replace c2:(w4.drewN nq).cell? ⟨b,o+2,none⟩=some (.int .i64 x2):=c2
 replace c3:(w4.drewN nq).cell? ⟨b,o+3,none⟩=some (.int .i64 x3):=c3
 replace c4:(w4.drewN nq).cell? ⟨b,o+4,none⟩=some (.int .i64 x4):=c4
 replace c5:(w4.drewN nq).cell? ⟨b,o+5,none⟩=some (.int .i64 x5):=c5
 replace c6:(w4.drewN nq).cell? ⟨b,o+6,none⟩=some (.int .i64 x6):=c6
 replace hb0:=below_drewN hb0 nq
 generalize w4.drewN nq=w5 at *
 go_upto_region 11 with fail
 go_quiet (fail)
 go_wp2_with fail
 go_returns
 exact ⟨rfl,below_drewN hb0 _⟩
end Go.Proofs.YtjbelhpgbcnlmaaGreat
end
end
