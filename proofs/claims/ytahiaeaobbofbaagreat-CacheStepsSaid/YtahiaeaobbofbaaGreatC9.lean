/- Several texts in one: The cache: a tile's image is used. The cache: use, of a tile that is held. The cache: use, of a tile that is not held. -/
import Derived.Test.YtahiaeaobbofbaaGreatC4
import Derived.Deep.RegionWith
section
set_option linter.unusedVariables false
namespace Go.Proofs.YtahiaeaobbofbaaGreat
open Go.RowKit
theorem Ag.wide {F F' : Nat → Prop} {w : World} {g : Nat} {now : Int} {m : List Int} (h : Ag F w g now m) (hF : ∀ i, F i → F' i) (hl : ∀ i, F' i → i < w.heap.size) : Ag F' w g now m := by
  obtain ⟨⟨A, n, c, cnt, mv, a, K, W, s, M, Fh, h1, h2, h3, h4, h5, h6, h7, h8, h9⟩, _⟩ := h
  refine ⟨⟨A, n, c, cnt, mv, a, K, W, s, M, Fh, h1, h2, h3, h4, fun i hi => hF i (h5 i hi), ?_, h7, h8, h9⟩, hl⟩
  rcases h6 with h6 | ⟨mb, e, q1, q2, q3⟩
  · exact .inl h6
  · exact .inr ⟨mb, e, hF mb q1, q2, q3⟩
theorem map_filter_nat (l : List Nat) (k : Nat) : (l.map natI).filter (· ≠ natI k) = (l.filter (· ≠ k)).map natI := by
  induction l with
  | nil => rfl
  | cons a l ih =>
    have e : decide (natI a ≠ natI k) = decide (a ≠ k) := by
      unfold natI
      apply decide_eq_decide.2
      omega
    simp only [List.map_cons, List.filter_cons, e]
    split
    · simp only [List.map_cons, ih]
    · exact ih
section
variable {r r' r'' : Nat → Nat} {w w' w'' : World} {K : SC} {U : Nat} {s : CS} {kb ab ga nk na : Nat} {vt vs : Value} {AM : Int → Option Value}
/-- An image has been used. -/
theorem CaP.used (h : CaP K U s r w kb ab ga vt vs nk na AM) {k na' : Nat} {AM' : Int → Option Value} {v : Value} {F' : Nat → Prop} {hi lo hg : Int} (hkT : k < s.T.length) (hv : HasIm w r K.ims K.tw K.th s.T[k] v)
    (g : Chg r (fun q => q = 1 ∨ q = 4 ∨ q = 7) w w') (cb' : Bk w' K.gc 41 (caA K { s with hits := hi, loads := lo, high := hg } kb ab ga vt vs)) (am' : Gm Tryz.prog 3 ikey w' ab na' AM') (hna : na' ≤ U + 1)
    (hAk : AM' (natI k) = some v) (hAo : ∀ z, z ≠ natI k → AM' z = AM z) (ag' : Ag F' w' ga (s.now + 1) ((s.ks.map natI).filter (· ≠ natI k) ++ [natI k])) (hF : ∀ i, F' i → r i = 7 ∨ w.heap.size ≤ i)
    (hl : ((s.ks.filter (· ≠ k)).length : Int) + 1 ≤ K.most) (hhi : 0 ≤ hi ∧ hi ≤ U + 1) (hlo : 0 ≤ lo ∧ lo ≤ U + 1) (hhg : 0 ≤ hg ∧ hg ≤ K.most) (hlw : K.lo ≤ w.heap.size) :
    ∃ r', CaP K (U + 1) { s with ks := s.ks.filter (· ≠ k) ++ [k], now := s.now + 1, hits := hi, loads := lo, high := hg } r' w' kb ab ga vt vs nk na' AM' ∧ Step r w r' w' ∧ HasIm w' r' K.ims K.tw K.th s.T[k] v := by
  classical
  have hext : ∀ b, b < w.heap.size → (if w.heap.size ≤ b ∧ F' b then 7 else r b) = r b := fun b hb => if_neg (fun e => by omega)
  have hz := g.size
  have hlt : ∀ b, r b ≠ 0 → b < w.heap.size := h.lt
  rw [map_filter_nat] at ag'
  have hag : Ag (fun b => (if w.heap.size ≤ b ∧ F' b then 7 else r b) = 7) w' ga (s.now + 1) ((s.ks.filter (· ≠ k) ++ [k]).map natI) := by
    have e : (s.ks.filter (· ≠ k) ++ [k]).map natI = (s.ks.filter (· ≠ k)).map natI ++ [natI k] := by simp
    rw [e]
    refine ag'.wide (fun i hi => ?_) (fun i hi => ?_)
    · by_cases e2 : w.heap.size ≤ i ∧ F' i
      · rw [if_pos e2]
      · rw [if_neg e2]
        rcases hF i hi with h1 | h1
        · exact h1
        · exact absurd ⟨h1, hi⟩ e2
    · by_cases e2 : w.heap.size ≤ i ∧ F' i
      · exact ag'.lt i e2.2
      · rw [if_neg e2] at hi
        have := hlt i (by omega)
        omega
  obtain ⟨b1, b2, b3, b4⟩ := h.bk
  obtain ⟨c1, c2, c3, c4, c5⟩ := h.bc
  have hmem : ∀ q ∈ s.ks.filter (· ≠ k) ++ [k], (q ∈ s.ks ∧ q ≠ k) ∨ q = k := fun q hq => by
    rcases List.mem_append.1 hq with h1 | h1
    · have := List.mem_filter.1 h1
      exact .inl ⟨this.1, by simpa using this.2⟩
    · exact .inr (by simpa using h1)
  have g0 : ¬ (fun q : Nat => q = 1 ∨ q = 4 ∨ q = 7) 0 := by decide
  refine ⟨fun b => if w.heap.size ≤ b ∧ F' b then 7 else r b, ?_, ⟨⟨g.bel, fun i hi hF => g.out i hi (fun e => hF (by rcases e with e | e | e <;> (rw [e]; decide)))⟩, hext⟩, hv.step g g0 hext⟩
  exact {
    cb := cb', so := g.bk h.so (by rw [h.rs]; decide), im := h.im.step g g0 hext,
    km := g.gm h.km (by rw [h.rk]; decide), am := am', tr := g.own h.tr (fun b hb => by rw [h.rt b hb]; decide), sr := g.own h.sr (fun b hb => by rw [h.rv b hb]; decide), ag := hag,
    rc := by rw [hext _ h.cb.lt]; exact h.rc, rs := by rw [hext _ h.so.lt]; exact h.rs, rk := by rw [hext _ (hlt kb (by rw [h.rk]; decide))]; exact h.rk, ra := by rw [hext _ (hlt ab (by rw [h.ra]; decide))]; exact h.ra,
    rt := fun b hb => by rw [hext b (hlt b (by rw [h.rt b hb]; decide))]; exact h.rt b hb, rv := fun b hb => by rw [hext b (hlt b (by rw [h.rv b hb]; decide))]; exact h.rv b hb, rg := by rw [hext _ (hlt ga (by rw [h.rg]; decide))]; exact h.rg,
    lt := fun b hr => by
      by_cases e2 : w.heap.size ≤ b ∧ F' b
      · exact ag'.lt b e2.2
      · rw [if_neg e2] at hr
        have := hlt b hr
        omega,
    ge := fun b hr => by
      by_cases e2 : w.heap.size ≤ b ∧ F' b
      · omega
      · rw [if_neg e2] at hr
        exact h.ge b hr,
    hit := fun q hq => by
      rcases hmem q hq with ⟨h1, h2⟩ | rfl
      · obtain ⟨p1, v1, p2, p3⟩ := h.hit q h1
        exact ⟨p1, v1, by rw [hAo _ (by unfold natI; omega)]; exact p2, p3.step g g0 hext⟩
      · exact ⟨hkT, v, hAk, hv.step g g0 hext⟩,
    mis := fun z hz => by
      have hne : z ≠ natI k := fun e => hz k (by simp) e.symm
      rw [hAo z hne]
      exact h.mis z (fun q hq e => by
        by_cases e3 : q = k
        · subst e3; exact hne e.symm
        · exact hz q (by simp [hq, e3]) e),
    len := h.len, small := h.small, ck := h.ck, tws := h.tws, tv := h.tv, nd := h.nd,
    bk := ⟨by omega, by omega, by simp; omega, by simp; omega⟩,
    bc := ⟨by simp; omega, by simp; omega, by simp; omega, by simp; omega, by simp; omega⟩,
    bm := h.bm, bh := hhg, bl := by simp at hl ⊢; omega,
    kd := by
      refine List.nodup_append.2 ⟨h.kd.filter _, by simp, fun a ha b hb => ?_⟩
      have h1 := (List.mem_filter.1 ha).2
      have h2 : b = k := by simpa using hb
      subst h2
      simpa using h1 }
def useS (K : SC) (s : CS) (t : Int × Int) : CS :=
  let s1 : CS := { s with T := addT s.T t }
  let k := s1.T.idxOf t
  let s2 : CS := if k ∈ s.ks then { s1 with hits := s.hits + 1 } else { roomS K s1 with cnt := s.cnt + 1, loads := s.loads + 1 }
  { s2 with ks := s2.ks.filter (· ≠ k) ++ [k], now := s2.now + 1, high := max s2.high ((s2.ks.filter (· ≠ k) ++ [k]).length : Nat) }
def UseP (K : SC) (U : Nat) (s : CS) (r : Nat → Nat) (w : World) (kb ab ga : Nat) (vs : Value) (t : Int × Int) (e : Ending) (w' : World) : Prop :=
  ∃ v, e = .returned v ∧ ∃ r' vt' nk' na' AM', CaP K (U + 5) (useS K s t) r' w' kb ab ga vt' vs nk' na' AM' ∧ Step r w r' w' ∧ HasIm w' r' K.ims K.tw K.th t v
theorem own_tag {w : World} {base n size : Nat} {e : TypeId} {v : Value} {xs : List Value} (k : w.ownsRow base e size v n xs) {b : Nat} (hb : v.ownBlock = some b) : ∃ cur, w.heap[b]? = some (.cells cur e) := by
  rcases k.2 with ⟨h1, h2⟩ | ⟨g, cap, cur, hv, h0, hh, h1, h2, h3, hx⟩
  · subst h1; cases hb
  · subst hv
    injection hb with hb
    simp at hb
    subst hb
    exact ⟨_, hh⟩
/-- A variable that the function itself has made is written. -/
theorem HasIm.local' {ims : List Im} {tw th : Int} {t : Int × Int} {v : Value} {r6 : Nat → Nat} {w6 w7 : World} {g : Nat} {cs : Array Value} (h : HasIm w6 r6 ims tw th t v) (kg : Bk w6 g 44 cs) (hgr : w6.grownBy w7 (some g)) : HasIm w7 r6 ims tw th t v := by
  obtain ⟨j, hj, sl, e1, e2, e3, e4, e5⟩ := h
  refine ⟨j, hj, sl, e1, e2, e3, own_same e4 (fun b hb => hgr.block b (e4.lt b hb).2 (fun e => ?_)), e5⟩
  injection e with e
  subst e
  obtain ⟨cur, hc⟩ := own_tag e4 hb
  have := hc.symm.trans kg
  injection this with this
  injection this with _ this
  exact absurd this (by decide)
theorem CaP.local' {U0 : Nat} {s0 s6 : CS} {r6 : Nat → Nat} {w6 w7 : World} {vt0 vs0 vt6 vs6 : Value} {nk0 na0 nk6 na6 g : Nat} {AM0 AM6 : Int → Option Value} {cs : Array Value} (h0 : CaP K U0 s0 r w kb ab ga vt0 vs0 nk0 na0 AM0) (h6 : CaP K U s6 r6 w6 kb ab ga vt6 vs6 nk6 na6 AM6) (hs : Step r w r6 w6)
    (kg : Bk w6 g 44 cs) (hg : w.heap.size ≤ g) (hr : r6 g = 0) (hgr : w6.grownBy w7 (some g)) (hz : w7.heap.size = w6.heap.size) :
    CaP K U s6 r6 w7 kb ab ga vt6 vs6 nk6 na6 AM6 ∧ Step r w r6 w7 := by
  have hB : Below 0 w6 w7 := ⟨hgr.os, hgr.tape, hgr.output, hgr.size, fun i hi => by omega⟩
  have c : Chg r6 (fun q => q = 0) w6 w7 := ⟨hB, fun i hi hn => hgr.block i hi (fun e => hn (by injection e with e; rw [e]; exact hr))⟩
  have hst : Step r w r6 w7 := ⟨⟨hs.chg.bel.trans hB, fun i hi hn => (hgr.block i (Nat.lt_of_lt_of_le hi hs.size) (fun e => by injection e with e; omega)).trans (hs.chg.out i hi hn)⟩, hs.ext⟩
  have n0 : ∀ {q : Nat}, q ≠ 0 → ¬ (fun q : Nat => q = 0) q := fun h => h
  refine ⟨?_, hst⟩
  exact { h6 with
    cb := c.bk h6.cb (by rw [h6.rc]; decide), so := c.bk h6.so (by rw [h6.rs]; decide), im := h0.im.step hst.chg (by simp) hst.ext,
    km := c.gm h6.km (by rw [h6.rk]; decide), am := c.gm h6.am (by rw [h6.ra]; decide), tr := c.own h6.tr (fun b hb => by rw [h6.rt b hb]; decide), sr := c.own h6.sr (fun b hb => by rw [h6.rv b hb]; decide),
    ag := c.ag h6.ag (fun b hb => by rw [hb]; decide),
    lt := fun b hr => by rw [hz]; exact h6.lt b hr,
    hit := fun k hk => by obtain ⟨h1, v, h2, h3⟩ := h6.hit k hk; exact ⟨h1, v, h2, h3.local' kg hgr⟩ }
end
end Go.Proofs.YtahiaeaobbofbaaGreat
end
section
set_option linter.unusedVariables false
namespace Go.Proofs.YtahiaeaobbofbaaGreat
open Go.RowKit
section
variable {r r' r'' : Nat → Nat} {w w' w'' : World} {K : SC} {U : Nat} {s : CS} {kb ab ga nk na : Nat} {vt vs : Value} {AM : Int → Option Value}
theorem addT_mem (T : List (Int × Int)) (t : Int × Int) : t ∈ addT T t := by
  unfold addT
  split
  · assumption
  · simp
theorem addT_get (T : List (Int × Int)) (t : Int × Int) (h : (addT T t).idxOf t < (addT T t).length) : (addT T t)[(addT T t).idxOf t] = t := List.getElem_idxOf h
/-- The value of a held image. -/
theorem HasIm.form {ims : List Im} {tw th : Int} {t : Int × Int} {v : Value} (h : HasIm w r ims tw th t v) : ∃ p0 p1 p2 A n c, v = .agg #[.int .i64 p0, .int .i64 p1, .int .i64 p2, .slice A n c] := by
  obtain ⟨j, hj, sl, _, _, e, ho, _⟩ := h
  obtain ⟨A, c, rfl, _⟩ := own_form ho
  exact ⟨_, _, _, _, _, _, e⟩
theorem use_hit_eq {t : Int × Int} (hk : (addT s.T t).idxOf t ∈ s.ks) : useS K s t = { s with T := addT s.T t, ks := s.ks.filter (· ≠ (addT s.T t).idxOf t) ++ [(addT s.T t).idxOf t], now := s.now + 1, hits := s.hits + 1, high := max s.high ((s.ks.filter (· ≠ (addT s.T t).idxOf t) ++ [(addT s.T t).idxOf t]).length : Nat) } := by
  unfold useS
  simp only [if_pos hk]
theorem hit_len {l : List Nat} (hnd : l.Nodup) {k : Nat} (hk : k ∈ l) : (l.filter (· ≠ k)).length + 1 = l.length := by
  induction l with
  | nil => cases hk
  | cons a l ih =>
    obtain ⟨h1, h2⟩ := List.nodup_cons.1 hnd
    by_cases e : a = k
    · subst e
      have : l.filter (· ≠ a) = l := List.filter_eq_self.2 (fun x hx => by simp; rintro rfl; exact h1 hx)
      simp at this ⊢
      exact this
    · have hk' : k ∈ l := by
        rcases List.mem_cons.1 hk with h3 | h3
        · exact absurd h3.symm e
        · exact h3
      have := ih h2 hk'
      simp [e] at this ⊢
      exact this
set_option maxRecDepth 100000 in
set_option maxHeartbeats 16000000 in
theorem cuse_hit (h : CaP K U s r w kb ab ga vt vs nk na AM) (hU : U ≤ 80000) (t : Int × Int) (h1 : R64 t.1) (h2 : R64 t.2) (hv : VT K.ims K.tw K.th t) (hlo : K.lo ≤ w.heap.size) (hk : (addT s.T t).idxOf t ∈ s.ks) :
    Calls Tryz.prog 32 #[.pointer (some ⟨K.gc, 0, none⟩), .agg (tiA t.1 t.2)] w (UseP K U s r w kb ab ga vs t) := by
  have hL := ((Lie.start w).alloc (tiA t.1 t.2) 48).alloc im0A 44
  simp only [World.size_alloc] at hL
  have hzL : K.lo ≤ ((w.alloc (.cells (tiA t.1 t.2) 48)).alloc (.cells im0A 44)).heap.size := by simp; omega
  have hkey := ckey (h.nx hL.bel) (by omega) t h1 h2 hv hzL
  have k0 : Bk _ w.heap.size 48 (tiA t.1 t.2) := hL.k 1 (by simp)
  have k1 : Bk _ (w.heap.size + 1) 44 im0A := hL.k 0 (by simp)
  have hfr : ∀ b, w.heap.size ≤ b → r b = 0 := h.fresh
  have hgcw : K.gc < w.heap.size := h.cb.lt
  obtain ⟨k, hkE⟩ : ∃ k, (addT s.T t).idxOf t = k := ⟨_, rfl⟩
  rw [hkE] at hkey hk
  have HK := Lib.hid hkE
  have HKS := Lib.hid hk
  have H := Lib.hid h
  have HV := Lib.hid hv
  obtain ⟨t1, t2⟩ := t
  simp only at *
  clear h hv hkE hk hlo h1 h2
  obtain ⟨gc, hgc⟩ : ∃ gc, K.gc = gc := ⟨_, rfl⟩
  rw [hgc] at hkey hgcw ⊢
  have HGC := Lib.hid hgc
  clear hgc
  go_enter Tryz.func32, Tryz.ntmps32
  go_upto_region 2 with (first
    | (refine ldB rfl _ _ rfl k0 rfl Tryz.underlying48 rfl ti_size ?_)
    | (go_at_call 51; (with_reducible refine hkey.mono ?_); rintro e w2 ⟨rfl, r2, vt2, nk2, hx2, hs2⟩))
  have hz2 : w.heap.size + 1 < w2.heap.size := by have := hs2.size; simp at this; omega
  have hs0 : Step r w r2 w2 := (Step.of_below hL.bel).trans hs2
  have k02 := hs2.bk k0 (hfr _ (Nat.le_refl _))
  have hr16 : r2 (w.heap.size + 1) = 0 := (hs2.ext _ (by simp)).trans (hfr _ (by omega))
  have k12 := hs2.bk k1 (hfr _ (by omega))
  obtain ⟨hkT, v, hAk, hHas⟩ := hx2.hit k HKS.out
  simp only at hkT hHas
  have hTk : (addT s.T (t1, t2))[k] = (t1, t2) := by
    have := addT_get s.T (t1, t2) (by rw [HK.out]; exact hkT)
    simp only [HK.out] at this
    exact this
  have hk64 : R64 (natI k) := by have := hx2.bk.2.2.1; simp only at this; unfold natI; constructor <;> omega
  obtain ⟨p0, p1, p2, A, n, c, rfl⟩ := hHas.form
  have hlk := (hx2.am).look (Maps.int_keyed Tryz.underlying3) Tryz.underlying36 (zero_img w2) (int_key (natI k) hk64)
  rw [hAk] at hlk
  simp only [Option.getD_some, Option.isSome_some, ikey] at hlk
  obtain ⟨kI, hkI⟩ : ∃ kI, natI k = kI := ⟨_, rfl⟩
  rw [hkI] at hlk
  have HKI := Lib.hid hkI
  have hkk : ((k : Nat) : Int) = kI := hkI
  rw [hkk]
  clear hkI hkk hkey hL hs2 k0 k1
  have kN := Bk.new w2 44 im0A
  have hcb2 := hx2.cb
  rw [HGC.out] at hcb2
  obtain ⟨c0, c1, c2, c3, c4, c5, c6, c7, c8, c9, c10⟩ := hcb2.cell11'
  clear c0 c1 c2 c3 c5 c6 c7 c8 c9 c10
  go_upto_region 3 with (refine stB (ty := 44) (cells := #[.int .i64 p0, .int .i64 p1, .int .i64 p2, .slice A n c]) rfl _ _ rfl kN rfl rfl img_size rfl (by simp [Value.oneCell']) ?_; intro w3 k3 hg3 hs3)
  have hL3 := ((Lie.start w2).alloc im0A 44).set hg3 k3 (by omega) (by simp)
  have hb3 : Below w2.heap.size w2 w3 := hL3.bel
  have hz3 : w2.heap.size < w3.heap.size := k3.lt
  have hx3 := hx2.nx hb3
  have hHas3 : HasIm w3 r2 K.ims K.tw K.th (addT s.T (t1, t2))[k] (.agg #[.int .i64 p0, .int .i64 p1, .int .i64 p2, .slice A n c]) := hHas.chg (R := fun _ => False) (only_below hb3) (fun e => e)
  have k03 := k02.nx hb3
  have k13 := k12.nx hb3
  have hs3' : Step r w r2 w3 := hs0.trans (Step.of_below hb3)
  have hcb3 := hx3.cb
  rw [HGC.out] at hcb3
  obtain ⟨c0, c1, c2, c3, c4, c5, c6, c7, c8, c9, c10⟩ := hcb3.cell11'
  have f6 := hcb3.frozen 6
  have hr36 : r2 w2.heap.size = 0 := hx2.fresh _ (Nat.le_refl _)
  have hr7 : r2 gc = 1 := by rw [← HGC.out]; exact hx3.rc
  have hgc3 : gc < w2.heap.size := by have := hs0.size; omega
  have hh64 : wrap64 (s.hits + 1) = s.hits + 1 := by have := hx3.bc.2.1; simp only at this; exact IntWalk.wrap64_in _ ⟨by omega, by omega⟩
  clear c0 c1 c2 c3 c4 c5 c7 c8 c9 c10 hlk kN hcb2 hL3 hg3 hs3 k02 k12 hb3 hx2 hHas
  obtain ⟨g6, hg6⟩ : ∃ g6, w2.heap.size = g6 := ⟨_, rfl⟩
  simp only [hg6] at k3 hz2 hz3 hgc3 hr36 ⊢
  clear hg6
  go_upto_region 9 with fail
  have hcb4 := hcb3.set 6 (.int .i64 (s.hits + 1))
  simp only [List.setIfInBounds_toArray, List.set_cons_zero, List.set_cons_succ] at hcb4
  have k34 := k3.far (p := ⟨gc, 6, none⟩) (by simp; omega) (.int .i64 (s.hits + 1))
  have k14 := k13.far (p := ⟨gc, 6, none⟩) (by simp; omega) (.int .i64 (s.hits + 1))
  have g4 : Chg r2 (fun q => q = 1 ∨ q = 4 ∨ q = 7) w3 (w3.setCell ⟨gc, 6, none⟩ (.int .i64 (s.hits + 1))) :=
    ⟨(Below.refl 0 w3).setCell (Nat.zero_le _) _, fun i hi hn => Below.heap_setCell w3 ⟨gc, 6, none⟩ _ i (fun e => hn (.inl (by simp at e; rw [e]; exact hr7)))⟩
  have ham4 : Gm Tryz.prog 3 ikey (w3.setCell ⟨gc, 6, none⟩ (.int .i64 (s.hits + 1))) ab na AM := hx3.am.same (Below.heap_setCell w3 ⟨gc, 6, none⟩ _ ab (fun e => by have := hx3.ra; rw [e, hr7] at this; cases this))
  have hag4 : Ag (fun b => r2 b = 7) (w3.setCell ⟨gc, 6, none⟩ (.int .i64 (s.hits + 1))) ga s.now (s.ks.map natI) := ag_keep hx3.ag (fun i hi => Below.heap_setCell w3 ⟨gc, 6, none⟩ _ i (fun e => by simp at e; rw [e, hr7] at hi; cases hi)) (by simp)
  clear hcb3 c6 f6 k3 k13 k03
  have hz4 : w3.heap.size = (w3.setCell ⟨gc, 6, none⟩ (.int .i64 (s.hits + 1))).heap.size := by simp
  generalize w3.setCell ⟨gc, 6, none⟩ (.int .i64 (s.hits + 1)) = w4 at *
  have htou := hag4.touch (k := natI k) hk64 (by have := hx3.bc.1; simp only at this; omega)
  rw [HKI.out] at htou
  have c45 := hcb4.cell11'.2.2.2.2.2.1
  go_upto_region 10 with (go_at_call 54; (with_reducible refine htou.mono ?_); rintro e w5 ⟨rfl, F5, hag5, hF5, hon5⟩)
  have g5 : Chg r2 (fun q => q = 7) w4 w5 := hon5
  have hcb5 := g5.bk hcb4 (by rw [hr7]; decide)
  have k35 := g5.bk k34 (by rw [hr36]; decide)
  have k15 := g5.bk k14 (by rw [hr16]; decide)
  have ham5 := g5.gm ham4 (by rw [hx3.ra]; decide)
  obtain ⟨c0, c1, c2, c3, _, c5, c6, c7, c8, c9, c10⟩ := hcb5.cell11'
  have f9 := hcb5.frozen 9
  have hlen : ∀ W, Below w5.heap.size w5 W → Calls Tryz.prog 33 #[.pointer (some ⟨ga, 0, none⟩)] W fun e w' => e = .returned (.int .i64 (((s.ks.filter (· ≠ k)).length + 1 : Nat))) ∧ W = w' := fun W hW => by
    have := (ag_keep hag5 (fun i hi => hW.block i (hag5.lt i hi)) hW.size).len
    rw [← HKI.out, map_filter_nat] at this
    simp only [List.length_append, List.length_map, List.length_singleton] at this
    exact this
  obtain ⟨L, hL⟩ : ∃ L, (s.ks.filter (· ≠ k)).length + 1 = L := ⟨_, rfl⟩
  rw [hL] at hlen
  have HL := Lib.hid hL
  clear hL c0 c1 c2 c3 c6 c7 c8 c10 htou
  have S0 : w5.drew.cell? ⟨gc, 5, none⟩ = some (.pointer (some ⟨ga, 0, none⟩)) := c5
  have S1 : ∀ v, (w5.setCell ⟨gc, 9, none⟩ v).drew.cell? ⟨gc, 5, none⟩ = some (.pointer (some ⟨ga, 0, none⟩)) := fun v => (World.cell?_setCell_other _ ⟨gc, 9, none⟩ ⟨gc, 5, none⟩ _ (fun e => by injection e with _ e; cases e)).trans c5
  have hB5 : Below w5.heap.size w5 w5.drew := (Below.refl _ _).drew
  obtain ⟨hh, hhE⟩ : ∃ hh, (if s.high < (L : Nat) then ((L : Nat) : Int) else s.high) = hh := ⟨_, rfl⟩
  have hfin : ∀ w6 w7, (w5.setCell ⟨gc, 9, none⟩ (.int .i64 hh)).drew = w6 → w6.grownBy w7 (some (w.heap.size + 1)) → w7.heap.size = w6.heap.size → UseP K U s r w kb ab ga vs (t1, t2) (.returned (.agg #[.int .i64 p0, .int .i64 p1, .int .i64 p2, .slice A n c])) w7 := by
    intro w6 w7 hw6 hgr hz7
    have hq := hcb5.set 9 (.int .i64 hh)
    simp only [List.setIfInBounds_toArray, List.set_cons_zero, List.set_cons_succ] at hq
    have hcb6 : Bk w6 gc 41 (caA K { s with T := addT s.T (t1, t2), hits := s.hits + 1, high := hh } kb ab ga vt2 vs) := by rw [← hw6]; exact hq
    have e6 : ∀ i, i ≠ gc → w6.heap[i]? = w5.heap[i]? := fun i hi => by rw [← hw6]; exact Below.heap_setCell w5 ⟨gc, 9, none⟩ _ i hi
    have hz6 : w6.heap.size = w5.heap.size := by rw [← hw6]; simp
    have b6 : Below 0 w5 w6 := by rw [← hw6]; exact ((Below.refl 0 w5).setCell (Nat.zero_le _) _).drew
    have hz5 : w4.heap.size ≤ w5.heap.size := g5.size
    have k16 : Bk w6 (w.heap.size + 1) 44 im0A := (e6 _ (by omega)).trans k15
    have ham6 : Gm Tryz.prog 3 ikey w6 ab na AM := ham5.same (e6 ab (fun e => by have := hx3.ra; rw [e, hr7] at this; cases this))
    have hag6 : Ag F5 w6 ga (s.now + 1) (List.filter (fun x => decide (x ≠ kI)) (List.map natI s.ks) ++ [kI]) := ag_keep hag5 (fun i hi => e6 i (fun e => by
      subst e
      rcases hF5 i hi with q | q
      · rw [hr7] at q; cases q
      · omega)) (by omega)
    have gg : Chg r2 (fun q => q = 1 ∨ q = 4 ∨ q = 7) w3 w6 := ⟨(g4.bel.trans g5.bel).trans b6, fun i hi hn => (e6 i (fun e => hn (.inl (by rw [e]; exact hr7)))).trans ((g5.same (by omega) (fun e => hn (.inr (.inr e)))).trans (g4.same hi hn))⟩
    rw [← HKI.out] at hag6
    have hln := hit_len hx3.kd HKS.out
    have hbl := hx3.bl
    have hbh := hx3.bh
    have hL := HL.out
    have hb1 := hx3.bc
    have hna := hx3.bk
    have hlow : K.lo ≤ w3.heap.size := by have := hs3'.size; simp at hzL; have h9 := H.out.ge gc (by rw [← HGC.out, H.out.rc]; decide); omega
    simp only at hln hbl hbh hb1 hna
    obtain ⟨r7, q1, q2, q3⟩ := hx3.used (hi := s.hits + 1) (lo := s.loads) (hg := hh) hkT hHas3 gg (by rw [HGC.out]; exact hcb6) ham6 (by omega) hAk (fun _ _ => rfl) hag6 (fun i hi => by
      rcases hF5 i hi with q | q
      · exact .inl q
      · exact .inr (by omega)) (by simp only; omega) ⟨by omega, by push_cast; omega⟩ ⟨by omega, by push_cast; omega⟩ ⟨by rw [← hhE]; split <;> omega, by rw [← hhE]; split <;> omega⟩ hlow
    have hr71 : r7 (w.heap.size + 1) = 0 := (q2.ext _ (by omega)).trans hr16
    obtain ⟨p1', p2'⟩ := H.out.local' q1 (hs3'.trans q2) k16 (by omega) hr71 hgr hz7
    refine ⟨_, rfl, r7, vt2, nk2, na, AM, ?_, p2', ?_⟩
    · rw [use_hit_eq (by rw [HK.out]; exact HKS.out)]
      simp only [HK.out]
      have e9 : max s.high (((s.ks.filter (· ≠ k) ++ [k]).length : Nat) : Int) = hh := by
        simp only [List.length_append, List.length_singleton]
        rw [← hhE]
        split <;> omega
      rw [e9]
      exact p1'.more (by omega)
    · have := q3.local' k16 hgr
      rw [hTk] at this
      exact this
  refine wp_region_held_drew (S := fun w' : World => w'.cell? ⟨gc, 5, none⟩ = some (.pointer (some ⟨ga, 0, none⟩))) (by kernel_rfl) S0 (fun hHeld => ?_)
  refine wpAnyH_take (i := 0) (v := ?_) rfl (by kernel_rfl) (by kernel_rfl) (by kernel_rfl) (fun _ _ _ h => h) (Or.inl ⟨by rfl, ?_⟩) (by assumption) ?_
  rotate_left
  · (intro w hSw; (try dsimp only at hSw); go_simp; try with_reducible rfl)
  refine wpAnyH_take (i := 1) (v := ?_) rfl (by kernel_rfl) (by kernel_rfl) (by kernel_rfl) (fun _ _ _ h => h) (Or.inl ⟨by rfl, ?_⟩) (by assumption) ?_
  rotate_left
  · (intro w hSw; (try dsimp only at hSw); go_simp; try with_reducible rfl)
  refine wpAnyH_take (i := 2) (v := ?_) rfl (by kernel_rfl) (by kernel_rfl) (by kernel_rfl) (fun _ _ _ h => h) (Or.inl ⟨by rfl, ?_⟩) (by assumption) ?_
  rotate_left
  · (intro w hSw; (try dsimp only at hSw); go_simp; try with_reducible rfl)
  refine wpAnyH_take (i := 3) (v := ?_) rfl (by kernel_rfl) (by kernel_rfl) (by kernel_rfl) (fun _ _ _ h => h) (Or.inl ⟨by rfl, ?_⟩) (by assumption) ?_
  rotate_left
  · (intro w hSw; (try dsimp only at hSw); go_simp; try with_reducible rfl)
  refine wpAnyH_take (i := 4) (v := ?_) rfl (by kernel_rfl) (by kernel_rfl) (by kernel_rfl) (fun _ _ _ h => h) (Or.inl ⟨by rfl, ?_⟩) (by assumption) ?_
  rotate_left
  · (intro w hSw; (try dsimp only at hSw); go_simp; try with_reducible rfl)
  refine wpAnyH_take (i := 6) (v := ?_) rfl (by kernel_rfl) (by kernel_rfl) (by kernel_rfl) (fun _ _ _ h => h) (Or.inl ⟨by rfl, ?_⟩) (by assumption) ?_
  rotate_left
  · (intro w hSw; (try dsimp only at hSw); go_simp; try with_reducible rfl)
  refine wpAnyH_take (i := 7) (v := ?_) rfl (by kernel_rfl) (by kernel_rfl) (by kernel_rfl) (fun _ _ _ h => h) (Or.inl ⟨by rfl, ?_⟩) (by assumption) ?_
  rotate_left
  · (intro w hSw; (try dsimp only at hSw); go_simp; try with_reducible rfl)
  refine wpAnyH_take (i := 8) (v := ?_) rfl (by kernel_rfl) (by kernel_rfl) (by kernel_rfl) (fun _ _ _ h => h) (Or.inl ⟨by rfl, ?_⟩) (by assumption) ?_
  rotate_left
  · (intro w hSw; (try dsimp only at hSw); go_simp; try with_reducible rfl)
  refine wpAnyH_take (i := 9) (v := ?_) rfl (by kernel_rfl) (by kernel_rfl) (by kernel_rfl) (fun _ _ _ h => h) (Or.inl ⟨by rfl, ?_⟩) (by assumption) ?_
  rotate_left
  · (intro w hSw; (try dsimp only at hSw); go_simp; try with_reducible rfl)
  refine wpAnyH_ready (rs := [5, 10]) (by kernel_rfl) (by simp) ?_
  refine AllReadyH.cons rfl (fun KK hK => ?_) (AllReadyH.cons rfl (fun KK hK => ?_) AllReadyH.nil)
  go_simp
  refine hK.out _ _ (by exact hHeld) (fun hHeld => ?_)
  clear hK KK
  refine wpAnyH_ready (rs := [10]) (by kernel_rfl) (by simp) ?_
  refine AllReadyH.cons rfl (fun KK hK => ?_) AllReadyH.nil
  go_simp
  refine (hlen _ hB5).mono ?_
  rintro e w6 ⟨rfl, rfl⟩
  go_simp
  refine hK.out _ _ (by exact hHeld) (fun hHeld => ?_)
  clear hK KK
  refine wpAnyH_ready (rs := [11]) (by kernel_rfl) (by simp) ?_
  refine AllReadyH.cons rfl (fun KK hK => ?_) AllReadyH.nil
  go_simp
  refine hK.out _ _ (by exact hHeld) (fun hHeld => ?_)
  clear hK KK
  refine wpAnyH_take (i := 12) (v := ?_) rfl (by kernel_rfl) (by kernel_rfl) (by kernel_rfl) (fun _ _ _ h => h) (Or.inl ⟨by rfl, ?_⟩) (by assumption) ?_
  rotate_left
  · (intro w hSw; (try dsimp only at hSw); go_simp; try with_reducible rfl)
  refine wpAnyH_take (i := 13) (v := ?_) rfl (by kernel_rfl) (by kernel_rfl) (by kernel_rfl) (fun _ _ _ h => h) (Or.inl ⟨by rfl, ?_⟩) (by assumption) ?_
  rotate_left
  · (intro w hSw; (try dsimp only at hSw); go_simp; try with_reducible rfl)
  refine wpAnyH_take (i := 14) (v := ?_) rfl (by kernel_rfl) (by kernel_rfl) (by kernel_rfl) (fun _ _ _ h => h) (Or.inl ⟨by rfl, ?_⟩) (by assumption) ?_
  rotate_left
  · (intro w hSw; (try dsimp only at hSw); go_simp; try with_reducible rfl)
  refine wpAnyH_ready (rs := [15]) (by kernel_rfl) (by simp) ?_
  refine AllReadyH.cons rfl (fun KK hK => ?_) AllReadyH.nil
  go_simp
  refine hK.out _ _ (S1 _) (fun hHeld => ?_)
  clear hK KK
  refine wpAnyH_done (by kernel_rfl) ?_ _
  rotate_left
  go_simp
  refine (hlen _ hB5).mono ?_
  rintro e w6 ⟨rfl, rfl⟩
  go_simp
  refine hK.out _ _ (by exact hHeld) (fun hHeld => ?_)
  clear hK KK
  refine wpAnyH_ready (rs := [5]) (by kernel_rfl) (by simp) ?_
  refine AllReadyH.cons rfl (fun KK hK => ?_) AllReadyH.nil
  go_simp
  refine hK.out _ _ (by exact hHeld) (fun hHeld => ?_)
  clear hK KK
  refine wpAnyH_ready (rs := [11]) (by kernel_rfl) (by simp) ?_
  refine AllReadyH.cons rfl (fun KK hK => ?_) AllReadyH.nil
  go_simp
  refine hK.out _ _ (by exact hHeld) (fun hHeld => ?_)
  clear hK KK
  refine wpAnyH_take (i := 12) (v := ?_) rfl (by kernel_rfl) (by kernel_rfl) (by kernel_rfl) (fun _ _ _ h => h) (Or.inl ⟨by rfl, ?_⟩) (by assumption) ?_
  rotate_left
  · (intro w hSw; (try dsimp only at hSw); go_simp; try with_reducible rfl)
  refine wpAnyH_take (i := 13) (v := ?_) rfl (by kernel_rfl) (by kernel_rfl) (by kernel_rfl) (fun _ _ _ h => h) (Or.inl ⟨by rfl, ?_⟩) (by assumption) ?_
  rotate_left
  · (intro w hSw; (try dsimp only at hSw); go_simp; try with_reducible rfl)
  refine wpAnyH_take (i := 14) (v := ?_) rfl (by kernel_rfl) (by kernel_rfl) (by kernel_rfl) (fun _ _ _ h => h) (Or.inl ⟨by rfl, ?_⟩) (by assumption) ?_
  rotate_left
  · (intro w hSw; (try dsimp only at hSw); go_simp; try with_reducible rfl)
  refine wpAnyH_ready (rs := [15]) (by kernel_rfl) (by simp) ?_
  refine AllReadyH.cons rfl (fun KK hK => ?_) AllReadyH.nil
  go_simp
  refine hK.out _ _ (S1 _) (fun hHeld => ?_)
  clear hK KK
  refine wpAnyH_done (by kernel_rfl) ?_ _
  all_goals
    have k36 : Bk (w5.setCell ⟨gc, 9, none⟩ (.int .i64 hh)).drew g6 44 #[.int .i64 p0, .int .i64 p1, .int .i64 p2, .slice A n c] := k35.far (p := ⟨gc, 9, none⟩) (by simp; omega) _
    have k16 : Bk (w5.setCell ⟨gc, 9, none⟩ (.int .i64 hh)).drew (w.heap.size + 1) 44 im0A := k15.far (p := ⟨gc, 9, none⟩) (by simp; omega) _
    obtain ⟨w6, hw6⟩ : ∃ w6, (w5.setCell ⟨gc, 9, none⟩ (.int .i64 hh)).drew = w6 := ⟨_, rfl⟩
    rw [hw6] at k36 k16 ⊢
    go_wp2_with (first
      | (refine ldB rfl _ _ rfl k36 rfl Tryz.underlying44 rfl img_size ?_)
      | (refine stB (ty := 44) (cells := #[.int .i64 p0, .int .i64 p1, .int .i64 p2, .slice A n c]) rfl _ _ rfl k16 rfl rfl img_size rfl (by simp [Value.oneCell']) ?_; intro w7 k17 hg7 hs7))
    refine bodyPost_ret (res_cell rfl k17 rfl Tryz.underlying44 rfl img_size) rfl ?_
    exact hfin w6 w7 hw6 hg7 hs7
end
end Go.Proofs.YtahiaeaobbofbaaGreat
end
section
set_option linter.unusedVariables false
namespace Go.Proofs.YtahiaeaobbofbaaGreat
open Go.RowKit
section
variable {r r' r'' : Nat → Nat} {w w' w'' : World} {K : SC} {U : Nat} {s : CS} {kb ab ga nk na : Nat} {vt vs : Value} {AM : Int → Option Value}
theorem roomS_flds (K : SC) (s : CS) : (roomS K s).T = s.T ∧ (roomS K s).cnt = s.cnt ∧ (roomS K s).loads = s.loads ∧ ∀ k, k ∉ s.ks → k ∉ (roomS K s).ks := by
  unfold roomS
  split
  · exact ⟨rfl, rfl, rfl, fun _ h => h⟩
  · exact ⟨rfl, rfl, rfl, fun k h h2 => h (List.mem_of_mem_tail h2)⟩
theorem keep3 {W : World} {g1 g2 g : Nat} {v0 v1 v2 x y z u : Value} (h : W.cell? ⟨g1, 0, none⟩ = some v0 ∧ W.cell? ⟨g2, 0, none⟩ = some v1 ∧ W.cell? ⟨g2, 1, none⟩ = some v2) (n1 : g1 ≠ g) (n2 : g2 ≠ g) :
    ((((W.setCell ⟨g, 0, none⟩ x).setCell ⟨g, 1, none⟩ y).setCell ⟨g, 2, none⟩ z).setCell ⟨g, 3, none⟩ u).cell? ⟨g1, 0, none⟩ = some v0 ∧ ((((W.setCell ⟨g, 0, none⟩ x).setCell ⟨g, 1, none⟩ y).setCell ⟨g, 2, none⟩ z).setCell ⟨g, 3, none⟩ u).cell? ⟨g2, 0, none⟩ = some v1 ∧ ((((W.setCell ⟨g, 0, none⟩ x).setCell ⟨g, 1, none⟩ y).setCell ⟨g, 2, none⟩ z).setCell ⟨g, 3, none⟩ u).cell? ⟨g2, 1, none⟩ = some v2 := by
  simp only [cell_s4 W g _ _ x y z u n1, cell_s4 W g _ _ x y z u n2]
  exact h
set_option maxRecDepth 100000 in
set_option maxHeartbeats 16000000 in
theorem cuse_miss (h : CaP K U s r w kb ab ga vt vs nk na AM) (hU : U ≤ 80000) (t : Int × Int) (h1 : R64 t.1) (h2 : R64 t.2) (hv : VT K.ims K.tw K.th t) (hlo : K.lo ≤ w.heap.size) (hk : (addT s.T t).idxOf t ∉ s.ks) :
    Calls Tryz.prog 32 #[.pointer (some ⟨K.gc, 0, none⟩), .agg (tiA t.1 t.2)] w (UseP K U s r w kb ab ga vs t) := by
  have hL := ((Lie.start w).alloc (tiA t.1 t.2) 48).alloc im0A 44
  simp only [World.size_alloc] at hL
  have hzL : K.lo ≤ ((w.alloc (.cells (tiA t.1 t.2) 48)).alloc (.cells im0A 44)).heap.size := by simp; omega
  have hkey := ckey (h.nx hL.bel) (by omega) t h1 h2 hv hzL
  have k0 : Bk _ w.heap.size 48 (tiA t.1 t.2) := hL.k 1 (by simp)
  have k1 : Bk _ (w.heap.size + 1) 44 im0A := hL.k 0 (by simp)
  have hfr : ∀ b, w.heap.size ≤ b → r b = 0 := h.fresh
  have hgcw : K.gc < w.heap.size := h.cb.lt
  obtain ⟨k, hkE⟩ : ∃ k, (addT s.T t).idxOf t = k := ⟨_, rfl⟩
  rw [hkE] at hkey hk
  have HK := Lib.hid hkE
  have HKS := Lib.hid hk
  have H := Lib.hid h
  have HV := Lib.hid hv
  obtain ⟨t1, t2⟩ := t
  simp only at *
  clear h hv hkE hk hlo h1 h2
  obtain ⟨gc, hgc⟩ : ∃ gc, K.gc = gc := ⟨_, rfl⟩
  rw [hgc] at hkey hgcw ⊢
  have HGC := Lib.hid hgc
  clear hgc
  go_enter Tryz.func32, Tryz.ntmps32
  go_upto_region 2 with (first
    | (refine ldB rfl _ _ rfl k0 rfl Tryz.underlying48 rfl ti_size ?_)
    | (go_at_call 51; (with_reducible refine hkey.mono ?_); rintro e w2 ⟨rfl, r2, vt2, nk2, hx2, hs2⟩))
  have hz2 : w.heap.size + 1 < w2.heap.size := by have := hs2.size; simp at this; omega
  have hs0 : Step r w r2 w2 := (Step.of_below hL.bel).trans hs2
  have k02 := hs2.bk k0 (hfr _ (Nat.le_refl _))
  have hr06 : r2 w.heap.size = 0 := (hs2.ext _ (by simp; omega)).trans (hfr _ (Nat.le_refl _))
  have hr16 : r2 (w.heap.size + 1) = 0 := (hs2.ext _ (by simp)).trans (hfr _ (by omega))
  have k12 := hs2.bk k1 (hfr _ (by omega))
  have hkT : k < (addT s.T (t1, t2)).length := by rw [← HK.out]; exact List.idxOf_lt_length_iff.2 (addT_mem _ _)
  have hTk : (addT s.T (t1, t2))[k] = (t1, t2) := by
    have := addT_get s.T (t1, t2) (by rw [HK.out]; exact hkT)
    simp only [HK.out] at this
    exact this
  have hk64 : R64 (natI k) := by have := hx2.bk.2.2.1; simp only at this; unfold natI; constructor <;> omega
  have hlk := (hx2.am).look (Maps.int_keyed Tryz.underlying3) Tryz.underlying36 (zero_img w2) (int_key (natI k) hk64)
  rw [hx2.mis (natI k) (fun q hq e => HKS.out (by have : q = k := by unfold natI at e; omega
                                                  exact this ▸ hq))] at hlk
  simp only [Option.getD_none, Option.isSome_none, ikey] at hlk
  obtain ⟨kI, hkI⟩ : ∃ kI, natI k = kI := ⟨_, rfl⟩
  rw [hkI] at hlk
  have HKI := Lib.hid hkI
  have hkk : ((k : Nat) : Int) = kI := hkI
  rw [hkk]
  clear hkI hkk hkey hL hs2 k0 k1
  have kN := Bk.new w2 44 im0A
  have hcb2 := hx2.cb
  rw [HGC.out] at hcb2
  obtain ⟨c0, c1, c2, c3, c4, c5, c6, c7, c8, c9, c10⟩ := hcb2.cell11'
  clear c0 c1 c2 c3 c5 c6 c7 c8 c9 c10
  go_upto_region 3 with (refine stB (ty := 44) (cells := im0A) rfl _ _ rfl kN rfl rfl img_size rfl (by simp [Value.oneCell']) ?_; intro w3 k3 hg3 hs3)
  have hL3 := ((Lie.start w2).alloc im0A 44).set hg3 k3 (by omega) (by simp)
  have hb3 : Below w2.heap.size w2 w3 := hL3.bel
  have hz3 : w2.heap.size < w3.heap.size := k3.lt
  have hx3 := hx2.nx hb3
  have k03 := k02.nx hb3
  have k13 := k12.nx hb3
  have hs3' : Step r w r2 w3 := hs0.trans (Step.of_below hb3)
  have hr7 : r2 gc = 1 := by rw [← HGC.out]; exact hx3.rc
  have hgc3 : gc < w2.heap.size := by have := hs0.size; omega
  have hr36 : r2 w2.heap.size = 0 := hx2.fresh _ (Nat.le_refl _)
  clear hlk kN hcb2 hL3 hg3 hs3 k02 k12 hb3 hx2 c4
  obtain ⟨g6, hg6⟩ : ∃ g6, w2.heap.size = g6 := ⟨_, rfl⟩
  simp only [hg6] at k3 hz2 hz3 hgc3 hr36 ⊢
  clear hg6
  have hroom := croom hx3 (by omega)
  rw [HGC.out] at hroom
  obtain ⟨s4, hs4⟩ : ∃ s4, roomS K { s with T := addT s.T (t1, t2) } = s4 := ⟨_, rfl⟩
  obtain ⟨f1, f2, f3, f4⟩ := roomS_flds K { s with T := addT s.T (t1, t2) }
  have f4 := f4 k HKS.out
  rw [hs4] at f1 f2 f3 f4
  simp only at f1 f2 f3
  have HS4 := Lib.hid hs4
  have F1 := Lib.hid f1
  have F2 := Lib.hid f2
  have F3 := Lib.hid f3
  clear f1 f2 f3
  rw [hs4] at hroom
  clear hs4
  go_upto_region 6 with (go_at_call 52; (with_reducible refine hroom.mono ?_); rintro e w4 ⟨rfl, AM4, hx4, hs4, hlen4⟩)
  have k34 := hs4.bk k3 hr36
  have k14 := hs4.bk k13 hr16
  have k04 := hs4.bk k03 hr06
  have hz4 := hs4.size
  have hs4' : Step r w r2 w4 := hs3'.trans hs4
  have hcb4 := hx4.cb
  rw [HGC.out] at hcb4
  obtain ⟨c0, c1, c2, c3, c4, c5, c6, c7, c8, c9, c10⟩ := hcb4.cell11'
  obtain ⟨d0, d1⟩ := k04.cell2
  have hfe := cfetch (hx4.nx (Below.refl _ _).drew) (by omega) (t1, t2) HV.out
  clear c1 c2 c3 c4 c5 c6 c7 c8 c9 c10 hroom k3 k13 k03 hx3 hs4
  have S0 : w4.drew.cell? ⟨gc, 0, none⟩ = some (.pointer (some ⟨K.gs, 0, none⟩)) ∧ w4.drew.cell? ⟨w.heap.size, 0, none⟩ = some (.int .i64 t1) ∧ w4.drew.cell? ⟨w.heap.size, 1, none⟩ = some (.int .i64 t2) := ⟨c0, d0, d1⟩
  go_region_held3 (fun w' => w'.cell? ⟨gc, 0, none⟩ = some (.pointer (some ⟨K.gs, 0, none⟩)) ∧ w'.cell? ⟨w.heap.size, 0, none⟩ = some (.int .i64 t1) ∧ w'.cell? ⟨w.heap.size, 1, none⟩ = some (.int .i64 t2))
    (first | exact S0 | exact S5 | exact S6 _ _ _ _ | assumption)
    (first
      | (go_at_call 53; (with_reducible refine hfe.mono ?_); rintro e w5 ⟨v, rfl, hx5, hs5, hHas5⟩;
         obtain ⟨p0, p1, p2, A, n, c, rfl⟩ := hHas5.form;
         have k35 := hs5.bk (show Bk w4.drew _ _ _ from k34) hr36;
         have k05 := hs5.bk (show Bk w4.drew _ _ _ from k04) hr06;
         have hcb5 := hx5.cb; rw [HGC.out] at hcb5;
         have S5 := And.intro hcb5.cell11'.1 k05.cell2;
         obtain ⟨z0, z1, z2, z3⟩ := k35.cell4; have f50 := k35.frozen 0; have f51 := k35.frozen 1; have f52 := k35.frozen 2; have f53 := k35.frozen 3;
         have S6 : ∀ x y z u, _ := fun x y z u => keep3 (x := x) (y := y) (z := z) (u := u) S5 (show gc ≠ g6 by omega) (show w.heap.size ≠ g6 by omega)))
  rename_i hHeld
  clear hHeld
  have hB6 : Below 0 w5 ((((w5.setCell ⟨g6, 0, none⟩ (.int .i64 p0)).setCell ⟨g6, 1, none⟩ (.int .i64 p1)).setCell ⟨g6, 2, none⟩ (.int .i64 p2)).setCell ⟨g6, 3, none⟩ (.slice A n c)) := ((((Below.refl 0 w5).setCell (Nat.zero_le _) _).setCell (Nat.zero_le _) _).setCell (Nat.zero_le _) _).setCell (Nat.zero_le _) _
  have hgr6 : w5.grownBy ((((w5.setCell ⟨g6, 0, none⟩ (.int .i64 p0)).setCell ⟨g6, 1, none⟩ (.int .i64 p1)).setCell ⟨g6, 2, none⟩ (.int .i64 p2)).setCell ⟨g6, 3, none⟩ (.slice A n c)) (some g6) :=
    ⟨hB6.os, hB6.tape, hB6.output, hB6.size, fun i hi hn => by
      have hne : i ≠ g6 := fun e => hn (by rw [e])
      exact (Below.heap_setCell _ ⟨g6, 3, none⟩ _ i hne).trans ((Below.heap_setCell _ ⟨g6, 2, none⟩ _ i hne).trans ((Below.heap_setCell _ ⟨g6, 1, none⟩ _ i hne).trans (Below.heap_setCell _ ⟨g6, 0, none⟩ _ i hne)))⟩
  have hz6 : ((((w5.setCell ⟨g6, 0, none⟩ (.int .i64 p0)).setCell ⟨g6, 1, none⟩ (.int .i64 p1)).setCell ⟨g6, 2, none⟩ (.int .i64 p2)).setCell ⟨g6, 3, none⟩ (.slice A n c)).heap.size = w5.heap.size := by simp
  have k36 := k35.set4 (.int .i64 p0) (.int .i64 p1) (.int .i64 p2) (.slice A n c)
  have hz5 : w4.heap.size ≤ w5.heap.size := hs5.size
  have k15 := hs5.bk (show Bk w4.drew _ _ _ from k14) hr16
  have hs5' : Step r w r2 w5 := (hs4'.trans (Step.of_below (Below.refl _ w4).drew)).trans hs5
  obtain ⟨hx6, hs6'⟩ := H.out.local' hx5 hs5' k35 (by omega) hr36 hgr6 hz6
  have hHas6 := hHas5.local' k35 hgr6
  have k16 : Bk _ (w.heap.size + 1) 44 im0A := (hgr6.block _ k15.lt (fun e => by injection e with e; omega)).trans k15
  clear S5 S6 z0 z1 z2 z3 f50 f51 f52 f53 hx5 hs5 hHas5 k35 k05 hcb5 S0 c0 d0 d1 hfe hgr6 hB6 k15 hs5' k34 k14 k04 hs4' hs3' hcb4
  generalize (((w5.setCell ⟨g6, 0, none⟩ (.int .i64 p0)).setCell ⟨g6, 1, none⟩ (.int .i64 p1)).setCell ⟨g6, 2, none⟩ (.int .i64 p2)).setCell ⟨g6, 3, none⟩ (.slice A n c) = w6 at *
  go_upto_region 7 with fail
  have hcb6 := hx6.cb
  rw [HGC.out] at hcb6
  obtain ⟨c0, c1, c2, c3, c4, c5, c6, c7, c8, c9, c10⟩ := hcb6.cell11'
  obtain ⟨z0, z1, z2, z3⟩ := k36.cell4
  have hnl : na < maxLen := by have := hx6.bk.2.1; simp [maxLen]; omega
  obtain ⟨w7, hmu, ham7, hgr7, hz7⟩ := (hx6.am.same (w' := w6.drew) rfl).store (v := .agg #[.int .i64 p0, .int .i64 p1, .int .i64 p2, .slice A n c]) (Maps.int_keyed Tryz.underlying3) Tryz.underlying36 hnl ikey_inj (int_key (natI k) hk64)
  have hne7 : ∀ i, i ≠ ab → i < w6.heap.size → w7.heap[i]? = w6.heap[i]? := fun i hi hl => hgr7.block i hl (fun e => by injection e with e; exact hi e)
  have hgca : gc ≠ ab := fun e => by have e1 := hx6.ra; rw [← e, hr7] at e1; cases e1
  have hg6a : g6 ≠ ab := fun e => by have e1 := hx6.ra; rw [← e, hr36] at e1; cases e1
  have h1a : w.heap.size + 1 ≠ ab := fun e => by have e1 := hx6.ra; rw [← e, hr16] at e1; cases e1
  have hcb7 := (show Bk w7 gc 41 _ from (hne7 _ hgca hcb6.lt).trans hcb6)
  have k37 := (show Bk w7 g6 44 _ from (hne7 _ hg6a k36.lt).trans k36)
  have k17 := (show Bk w7 (w.heap.size + 1) 44 im0A from (hne7 _ h1a k16.lt).trans k16)
  simp only [ikey, HKI.out] at hmu
  have S0 : w6.drew.cell? ⟨gc, 4, none⟩ = some (.map (some ab)) ∧ w6.drew.cell? ⟨g6, 0, none⟩ = some (.int .i64 p0) ∧ w6.drew.cell? ⟨g6, 1, none⟩ = some (.int .i64 p1) ∧ w6.drew.cell? ⟨g6, 2, none⟩ = some (.int .i64 p2) ∧ w6.drew.cell? ⟨g6, 3, none⟩ = some (.slice A n c) := ⟨c4, z0, z1, z2, z3⟩
  have S7 : w7.cell? ⟨gc, 4, none⟩ = some (.map (some ab)) ∧ w7.cell? ⟨g6, 0, none⟩ = some (.int .i64 p0) ∧ w7.cell? ⟨g6, 1, none⟩ = some (.int .i64 p1) ∧ w7.cell? ⟨g6, 2, none⟩ = some (.int .i64 p2) ∧ w7.cell? ⟨g6, 3, none⟩ = some (.slice A n c) := ⟨hcb7.cell11'.2.2.2.2.1, k37.cell4⟩
  clear c0 c1 c2 c3 c4 c5 c6 c7 c8 c9 c10 z0 z1 z2 z3
  go_region_held3 (fun w' => w'.cell? ⟨gc, 4, none⟩ = some (.map (some ab)) ∧ w'.cell? ⟨g6, 0, none⟩ = some (.int .i64 p0) ∧ w'.cell? ⟨g6, 1, none⟩ = some (.int .i64 p1) ∧ w'.cell? ⟨g6, 2, none⟩ = some (.int .i64 p2) ∧ w'.cell? ⟨g6, 3, none⟩ = some (.slice A n c))
    (first | exact S0 | exact S7 | assumption)
    (fail)
  rename_i hHeld
  clear hHeld S0 S7 hmu
  have hl64 : wrap64 (s4.loads + 1) = s4.loads + 1 := by have := hx6.bc.2.2.1; simp only at this; exact IntWalk.wrap64_in _ ⟨by omega, by omega⟩
  have c7 := hcb7.cell11'.2.2.2.2.2.2.2.1
  have f7 := hcb7.frozen 7
  have hcb8 := hcb7.set 7 (.int .i64 (s4.loads + 1))
  simp only [List.setIfInBounds_toArray, List.set_cons_zero, List.set_cons_succ] at hcb8
  go_upto_region 9 with fail
  have k38 := k37.far (p := ⟨gc, 7, none⟩) (by simp; omega) (.int .i64 (s4.loads + 1))
  have k18 := k17.far (p := ⟨gc, 7, none⟩) (by simp; omega) (.int .i64 (s4.loads + 1))
  have hr4 : r2 ab = 4 := hx6.ra
  have g8 : Chg r2 (fun q => q = 1 ∨ q = 4 ∨ q = 7) w6 (w7.setCell ⟨gc, 7, none⟩ (.int .i64 (s4.loads + 1))) :=
    ⟨((Below.mk hgr7.os hgr7.tape hgr7.output hgr7.size (fun i hi => by omega) : Below 0 w6.drew w7) |> fun b => ((Below.refl 0 w6).drew.trans b)).setCell (Nat.zero_le _) _, fun i hi hn =>
      (Below.heap_setCell w7 ⟨gc, 7, none⟩ _ i (fun e => hn (.inl (by simp at e; rw [e]; exact hr7)))).trans (hne7 i (fun e => hn (.inr (.inl (by rw [e]; exact hr4)))) hi)⟩
  have ham8 := ham7.same (w' := w7.setCell ⟨gc, 7, none⟩ (.int .i64 (s4.loads + 1))) (Below.heap_setCell w7 ⟨gc, 7, none⟩ _ ab (fun e => hgca e.symm))
  have hag8 : Ag (fun b => r2 b = 7) (w7.setCell ⟨gc, 7, none⟩ (.int .i64 (s4.loads + 1))) ga s4.now (s4.ks.map natI) := ag_keep hx6.ag (fun i hi => (Below.heap_setCell w7 ⟨gc, 7, none⟩ _ i (fun e => by simp at e; rw [e, hr7] at hi; cases hi)).trans (hne7 i (fun e => by rw [e, hr4] at hi; cases hi) (hx6.ag.lt i hi))) (by simp; exact hgr7.size)
  have hz8 : w6.heap.size = (w7.setCell ⟨gc, 7, none⟩ (.int .i64 (s4.loads + 1))).heap.size := by simp; exact hz7.symm
  clear hcb7 c7 f7 k37 k17 k36 k16 hcb6 ham7 hgr7 hz7 hne7
  generalize w7.setCell ⟨gc, 7, none⟩ (.int .i64 (s4.loads + 1)) = w8 at *
  have htou := hag8.touch (k := natI k) hk64 (by have := hx6.bc.1; simp only at this; omega)
  rw [HKI.out] at htou
  have c85 := hcb8.cell11'.2.2.2.2.2.1
  go_upto_region 10 with (go_at_call 54; (with_reducible refine htou.mono ?_); rintro e w9 ⟨rfl, F9, hag9, hF9, hon9⟩)
  have g9 : Chg r2 (fun q => q = 7) w8 w9 := hon9
  have hcb9 := g9.bk hcb8 (by rw [hr7]; decide)
  have k39 := g9.bk k38 (by rw [hr36]; decide)
  have k19 := g9.bk k18 (by rw [hr16]; decide)
  have ham9 := g9.gm ham8 (by rw [hr4]; decide)
  obtain ⟨c0, c1, c2, c3, _, c5, c6, c7, c8, c9, c10⟩ := hcb9.cell11'
  have f9 := hcb9.frozen 9
  have hlen : ∀ W, Below w9.heap.size w9 W → Calls Tryz.prog 33 #[.pointer (some ⟨ga, 0, none⟩)] W fun e w' => e = .returned (.int .i64 (((s4.ks.filter (· ≠ k)).length + 1 : Nat))) ∧ W = w' := fun W hW => by
    have := (ag_keep hag9 (fun i hi => hW.block i (hag9.lt i hi)) hW.size).len
    rw [← HKI.out, map_filter_nat] at this
    simp only [List.length_append, List.length_map, List.length_singleton] at this
    exact this
  obtain ⟨L, hL⟩ : ∃ L, (s4.ks.filter (· ≠ k)).length + 1 = L := ⟨_, rfl⟩
  rw [hL] at hlen
  have HL := Lib.hid hL
  clear hL c0 c1 c2 c3 c6 c7 c8 c10 htou
  have S0 : w9.drew.cell? ⟨gc, 5, none⟩ = some (.pointer (some ⟨ga, 0, none⟩)) := c5
  have S1 : ∀ v, (w9.setCell ⟨gc, 9, none⟩ v).drew.cell? ⟨gc, 5, none⟩ = some (.pointer (some ⟨ga, 0, none⟩)) := fun v => (World.cell?_setCell_other _ ⟨gc, 9, none⟩ ⟨gc, 5, none⟩ _ (fun e => by injection e with _ e; cases e)).trans c5
  have hB9 : Below w9.heap.size w9 w9.drew := (Below.refl _ _).drew
  obtain ⟨hh, hhE⟩ : ∃ hh, (if s4.high < (L : Nat) then ((L : Nat) : Int) else s4.high) = hh := ⟨_, rfl⟩
  have hfin : ∀ wA wB, (w9.setCell ⟨gc, 9, none⟩ (.int .i64 hh)).drew = wA → wA.grownBy wB (some (w.heap.size + 1)) → wB.heap.size = wA.heap.size → UseP K U s r w kb ab ga vs (t1, t2) (.returned (.agg #[.int .i64 p0, .int .i64 p1, .int .i64 p2, .slice A n c])) wB := by
    intro wA wB hwA hgr hzB
    have f1 := F1.out
    have f2 := F2.out
    have f3 := F3.out
    have hq := hcb9.set 9 (.int .i64 hh)
    simp only [List.setIfInBounds_toArray, List.set_cons_zero, List.set_cons_succ] at hq
    have hcbA : Bk wA gc 41 (caA K { s4 with cnt := s4.cnt + 1, loads := s4.loads + 1, high := hh } kb ab ga vt2 vs) := by rw [← hwA]; exact hq
    have e6 : ∀ i, i ≠ gc → wA.heap[i]? = w9.heap[i]? := fun i hi => by rw [← hwA]; exact Below.heap_setCell w9 ⟨gc, 9, none⟩ _ i hi
    have hzA : wA.heap.size = w9.heap.size := by rw [← hwA]; simp
    have b6 : Below 0 w9 wA := by rw [← hwA]; exact ((Below.refl 0 w9).setCell (Nat.zero_le _) _).drew
    have hz9 : w8.heap.size ≤ w9.heap.size := g9.size
    have k1A : Bk wA (w.heap.size + 1) 44 im0A := (e6 _ (by omega)).trans k19
    have hamA := ham9.same (e6 ab (fun e => hgca e.symm))
    have hagA : Ag F9 wA ga (s4.now + 1) (List.filter (fun x => decide (x ≠ kI)) (List.map natI s4.ks) ++ [kI]) := ag_keep hag9 (fun i hi => e6 i (fun e => by
      subst e
      rcases hF9 i hi with q | q
      · rw [hr7] at q; cases q
      · omega)) (by omega)
    have gg : Chg r2 (fun q => q = 1 ∨ q = 4 ∨ q = 7) w6 wA := ⟨(g8.bel.trans g9.bel).trans b6, fun i hi hn => (e6 i (fun e => hn (.inl (by rw [e]; exact hr7)))).trans ((g9.same (by omega) (fun e => hn (.inr (.inr e)))).trans (g8.same hi hn))⟩
    rw [← HKI.out] at hagA
    have hbl := hx6.bl
    have hbh := hx6.bh
    have hbm := hx6.bm
    have hL := HL.out
    have hb1 := hx6.bc
    have hna := hx6.bk
    have hlow : K.lo ≤ w6.heap.size := by have := hs6'.size; have h9 := H.out.ge gc (by rw [← HGC.out, H.out.rc]; decide); omega
    have hfl : (s4.ks.filter (· ≠ k)).length ≤ s4.ks.length := List.length_filter_le _ _
    simp only at hbl hbh hb1 hna
    obtain ⟨r7, q1, q2, q3⟩ := hx6.used (k := k) (v := .agg #[.int .i64 p0, .int .i64 p1, .int .i64 p2, .slice A n c]) (hi := s4.hits) (lo := s4.loads + 1) (hg := hh) (by simp only [f1]; exact hkT) (by simp only [f1, hTk]; exact hHas6) gg (by rw [HGC.out]; exact hcbA) hamA (by omega) (by simp) (fun z hz => by simp [hz]) hagA (fun i hi => by
      rcases hF9 i hi with q | q
      · exact .inl q
      · exact .inr (by omega)) (by simp only; omega) ⟨by omega, by push_cast; omega⟩ ⟨by omega, by push_cast; omega⟩ ⟨by rw [← hhE]; split <;> omega, by rw [← hhE]; split <;> omega⟩ hlow
    have hr71 : r7 (w.heap.size + 1) = 0 := (q2.ext _ (by omega)).trans hr16
    obtain ⟨p1', p2'⟩ := H.out.local' q1 (hs6'.trans q2) k1A (by omega) hr71 hgr hzB
    refine ⟨_, rfl, r7, vt2, nk2, na + 1, (fun z => if z = natI k then some (.agg #[.int .i64 p0, .int .i64 p1, .int .i64 p2, .slice A n c]) else AM4 z), ?_, p2', ?_⟩
    · have e9 : max s4.high (((s4.ks.filter (· ≠ k) ++ [k]).length : Nat) : Int) = hh := by
        simp only [List.length_append, List.length_singleton]
        rw [← hhE]
        split <;> omega
      have eU : useS K s (t1, t2) = { s4 with cnt := s4.cnt + 1, ks := s4.ks.filter (· ≠ k) ++ [k], now := s4.now + 1, loads := s4.loads + 1, high := hh } := by
        unfold useS
        simp only [HK.out, if_neg HKS.out, HS4.out, e9]
        rw [f2, f3]
      rw [eU]
      exact p1'.more (by omega)
    · have := q3.local' k1A hgr
      simp only [f1, hTk] at this
      exact this
  refine wp_region_held_drew (S := fun w' : World => w'.cell? ⟨gc, 5, none⟩ = some (.pointer (some ⟨ga, 0, none⟩))) (by kernel_rfl) S0 (fun hHeld => ?_)
  refine wpAnyH_take (i := 0) (v := ?_) rfl (by kernel_rfl) (by kernel_rfl) (by kernel_rfl) (fun _ _ _ h => h) (Or.inl ⟨by rfl, ?_⟩) (by assumption) ?_
  rotate_left
  · (intro w hSw; (try dsimp only at hSw); go_simp; try with_reducible rfl)
  refine wpAnyH_take (i := 1) (v := ?_) rfl (by kernel_rfl) (by kernel_rfl) (by kernel_rfl) (fun _ _ _ h => h) (Or.inl ⟨by rfl, ?_⟩) (by assumption) ?_
  rotate_left
  · (intro w hSw; (try dsimp only at hSw); go_simp; try with_reducible rfl)
  refine wpAnyH_take (i := 2) (v := ?_) rfl (by kernel_rfl) (by kernel_rfl) (by kernel_rfl) (fun _ _ _ h => h) (Or.inl ⟨by rfl, ?_⟩) (by assumption) ?_
  rotate_left
  · (intro w hSw; (try dsimp only at hSw); go_simp; try with_reducible rfl)
  refine wpAnyH_take (i := 3) (v := ?_) rfl (by kernel_rfl) (by kernel_rfl) (by kernel_rfl) (fun _ _ _ h => h) (Or.inl ⟨by rfl, ?_⟩) (by assumption) ?_
  rotate_left
  · (intro w hSw; (try dsimp only at hSw); go_simp; try with_reducible rfl)
  refine wpAnyH_take (i := 4) (v := ?_) rfl (by kernel_rfl) (by kernel_rfl) (by kernel_rfl) (fun _ _ _ h => h) (Or.inl ⟨by rfl, ?_⟩) (by assumption) ?_
  rotate_left
  · (intro w hSw; (try dsimp only at hSw); go_simp; try with_reducible rfl)
  refine wpAnyH_take (i := 6) (v := ?_) rfl (by kernel_rfl) (by kernel_rfl) (by kernel_rfl) (fun _ _ _ h => h) (Or.inl ⟨by rfl, ?_⟩) (by assumption) ?_
  rotate_left
  · (intro w hSw; (try dsimp only at hSw); go_simp; try with_reducible rfl)
  refine wpAnyH_take (i := 7) (v := ?_) rfl (by kernel_rfl) (by kernel_rfl) (by kernel_rfl) (fun _ _ _ h => h) (Or.inl ⟨by rfl, ?_⟩) (by assumption) ?_
  rotate_left
  · (intro w hSw; (try dsimp only at hSw); go_simp; try with_reducible rfl)
  refine wpAnyH_take (i := 8) (v := ?_) rfl (by kernel_rfl) (by kernel_rfl) (by kernel_rfl) (fun _ _ _ h => h) (Or.inl ⟨by rfl, ?_⟩) (by assumption) ?_
  rotate_left
  · (intro w hSw; (try dsimp only at hSw); go_simp; try with_reducible rfl)
  refine wpAnyH_take (i := 9) (v := ?_) rfl (by kernel_rfl) (by kernel_rfl) (by kernel_rfl) (fun _ _ _ h => h) (Or.inl ⟨by rfl, ?_⟩) (by assumption) ?_
  rotate_left
  · (intro w hSw; (try dsimp only at hSw); go_simp; try with_reducible rfl)
  refine wpAnyH_ready (rs := [5, 10]) (by kernel_rfl) (by simp) ?_
  refine AllReadyH.cons rfl (fun KK hK => ?_) (AllReadyH.cons rfl (fun KK hK => ?_) AllReadyH.nil)
  go_simp
  refine hK.out _ _ (by exact hHeld) (fun hHeld => ?_)
  clear hK KK
  refine wpAnyH_ready (rs := [10]) (by kernel_rfl) (by simp) ?_
  refine AllReadyH.cons rfl (fun KK hK => ?_) AllReadyH.nil
  go_simp
  refine (hlen _ hB9).mono ?_
  rintro e wL ⟨rfl, rfl⟩
  go_simp
  refine hK.out _ _ (by exact hHeld) (fun hHeld => ?_)
  clear hK KK
  refine wpAnyH_ready (rs := [11]) (by kernel_rfl) (by simp) ?_
  refine AllReadyH.cons rfl (fun KK hK => ?_) AllReadyH.nil
  go_simp
  refine hK.out _ _ (by exact hHeld) (fun hHeld => ?_)
  clear hK KK
  refine wpAnyH_take (i := 12) (v := ?_) rfl (by kernel_rfl) (by kernel_rfl) (by kernel_rfl) (fun _ _ _ h => h) (Or.inl ⟨by rfl, ?_⟩) (by assumption) ?_
  rotate_left
  · (intro w hSw; (try dsimp only at hSw); go_simp; try with_reducible rfl)
  refine wpAnyH_take (i := 13) (v := ?_) rfl (by kernel_rfl) (by kernel_rfl) (by kernel_rfl) (fun _ _ _ h => h) (Or.inl ⟨by rfl, ?_⟩) (by assumption) ?_
  rotate_left
  · (intro w hSw; (try dsimp only at hSw); go_simp; try with_reducible rfl)
  refine wpAnyH_take (i := 14) (v := ?_) rfl (by kernel_rfl) (by kernel_rfl) (by kernel_rfl) (fun _ _ _ h => h) (Or.inl ⟨by rfl, ?_⟩) (by assumption) ?_
  rotate_left
  · (intro w hSw; (try dsimp only at hSw); go_simp; try with_reducible rfl)
  refine wpAnyH_ready (rs := [15]) (by kernel_rfl) (by simp) ?_
  refine AllReadyH.cons rfl (fun KK hK => ?_) AllReadyH.nil
  go_simp
  refine hK.out _ _ (S1 _) (fun hHeld => ?_)
  clear hK KK
  refine wpAnyH_done (by kernel_rfl) ?_ _
  rotate_left
  go_simp
  refine (hlen _ hB9).mono ?_
  rintro e wL ⟨rfl, rfl⟩
  go_simp
  refine hK.out _ _ (by exact hHeld) (fun hHeld => ?_)
  clear hK KK
  refine wpAnyH_ready (rs := [5]) (by kernel_rfl) (by simp) ?_
  refine AllReadyH.cons rfl (fun KK hK => ?_) AllReadyH.nil
  go_simp
  refine hK.out _ _ (by exact hHeld) (fun hHeld => ?_)
  clear hK KK
  refine wpAnyH_ready (rs := [11]) (by kernel_rfl) (by simp) ?_
  refine AllReadyH.cons rfl (fun KK hK => ?_) AllReadyH.nil
  go_simp
  refine hK.out _ _ (by exact hHeld) (fun hHeld => ?_)
  clear hK KK
  refine wpAnyH_take (i := 12) (v := ?_) rfl (by kernel_rfl) (by kernel_rfl) (by kernel_rfl) (fun _ _ _ h => h) (Or.inl ⟨by rfl, ?_⟩) (by assumption) ?_
  rotate_left
  · (intro w hSw; (try dsimp only at hSw); go_simp; try with_reducible rfl)
  refine wpAnyH_take (i := 13) (v := ?_) rfl (by kernel_rfl) (by kernel_rfl) (by kernel_rfl) (fun _ _ _ h => h) (Or.inl ⟨by rfl, ?_⟩) (by assumption) ?_
  rotate_left
  · (intro w hSw; (try dsimp only at hSw); go_simp; try with_reducible rfl)
  refine wpAnyH_take (i := 14) (v := ?_) rfl (by kernel_rfl) (by kernel_rfl) (by kernel_rfl) (fun _ _ _ h => h) (Or.inl ⟨by rfl, ?_⟩) (by assumption) ?_
  rotate_left
  · (intro w hSw; (try dsimp only at hSw); go_simp; try with_reducible rfl)
  refine wpAnyH_ready (rs := [15]) (by kernel_rfl) (by simp) ?_
  refine AllReadyH.cons rfl (fun KK hK => ?_) AllReadyH.nil
  go_simp
  refine hK.out _ _ (S1 _) (fun hHeld => ?_)
  clear hK KK
  refine wpAnyH_done (by kernel_rfl) ?_ _
  all_goals
    have k3A : Bk (w9.setCell ⟨gc, 9, none⟩ (.int .i64 hh)).drew g6 44 #[.int .i64 p0, .int .i64 p1, .int .i64 p2, .slice A n c] := k39.far (p := ⟨gc, 9, none⟩) (by simp; omega) _
    have k1A : Bk (w9.setCell ⟨gc, 9, none⟩ (.int .i64 hh)).drew (w.heap.size + 1) 44 im0A := k19.far (p := ⟨gc, 9, none⟩) (by simp; omega) _
    obtain ⟨wA, hwA⟩ : ∃ wA, (w9.setCell ⟨gc, 9, none⟩ (.int .i64 hh)).drew = wA := ⟨_, rfl⟩
    rw [hwA] at k3A k1A ⊢
    go_wp2_with (first
      | (refine ldB rfl _ _ rfl k3A rfl Tryz.underlying44 rfl img_size ?_)
      | (refine stB (ty := 44) (cells := #[.int .i64 p0, .int .i64 p1, .int .i64 p2, .slice A n c]) rfl _ _ rfl k1A rfl rfl img_size rfl (by simp [Value.oneCell']) ?_; intro wB kB hgB hsB))
    refine bodyPost_ret (res_cell rfl kB rfl Tryz.underlying44 rfl img_size) rfl ?_
    exact hfin wA wB hwA hgB hsB
theorem cuse (h : CaP K U s r w kb ab ga vt vs nk na AM) (hU : U ≤ 80000) (t : Int × Int) (h1 : R64 t.1) (h2 : R64 t.2) (hv : VT K.ims K.tw K.th t) (hlo : K.lo ≤ w.heap.size) :
    Calls Tryz.prog 32 #[.pointer (some ⟨K.gc, 0, none⟩), .agg (tiA t.1 t.2)] w (UseP K U s r w kb ab ga vs t) := by
  by_cases hk : (addT s.T t).idxOf t ∈ s.ks
  · exact cuse_hit h hU t h1 h2 hv hlo hk
  · exact cuse_miss h hU t h1 h2 hv hlo hk
end
end Go.Proofs.YtahiaeaobbofbaaGreat
end
