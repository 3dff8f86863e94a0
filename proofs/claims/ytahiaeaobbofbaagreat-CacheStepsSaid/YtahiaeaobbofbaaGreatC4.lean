/- Several texts in one: The cache: what lies in memory, each block in a role. The cache: what holds of it between steps. The cache: tiles as keys. The cache: room for one more tile. The cache: a tile's pixels out of the store. -/
import Derived.Test.YtahiaeaobbofbaaGreatC1
import Derived.Test.YtahiaeaobbofbaaGreatGM
import Derived.Test.YtahiaeaobbofbaaGreatGC
import Derived.WideKeyEntry
import Derived.DeepKeys5
import Derived.Deep.RegionHeld3
import Derived.Deep.Cut
import Derived.Deep.DeepCutAuto
import Derived.Deep.RegionWith
section
set_option linter.unusedVariables false
namespace Go.Proofs.YtahiaeaobbofbaaGreat
open Go.RowKit
section
variable {K : Type} [DecidableEq K] {kv : K → Value} {P : Program} {kt : TypeId} {w : World} {b n : Nat} {M : K → Option Value}
/-- m[x] = v in two steps: the entry first, its value later. -/
theorem Gm.entry {t e : TypeId} (h : Gm P kt kv w b n M) (KL : WideMaps.KeyLaw P kt) (ht : P.underlying t = some (.map kt e)) {z : Value} (hz : ∀ u : World, (zeroValue e).run P u = .ok z u) (hn : n < maxLen) (hinj : ∀ a b, kv a = kv b → a = b) {x : K} {l : Lit} (hx : keyOf P kt (kv x) = some l) :
    ∃ (v0 : Value) (st : Nat) (o1 : Obj), (Instr.mapEntry t (.map (some b)) (kv x)).run P w = .ok (.tuple #[v0, goInt st]) (ChangeMaps.setBlock w b o1) ∧
      ∀ (w2 : World) (val : Value), w2.heap[b]? = some o1 → ∃ o2, (Instr.entryStore t (.map (some b)) (goInt st) val).run P w2 = .ok () (ChangeMaps.setBlock w2 b o2) ∧
        ∀ w3 : World, w3.heap[b]? = some o2 → Gm P kt kv w3 b (n + 1) (fun z => if z = x then some val else M z) := by
  have h0 := h
  obtain ⟨D, ⟨es, clock, hb, F, hs, hD⟩, h2⟩ := h
  obtain ⟨v0, st, es1, clock1, hr, _, hnx⟩ := WideElems.entry_then_store KL ht hz hb F hx
  refine ⟨v0, st, .map es1 clock1, hr, fun w2 val hw2 => ?_⟩
  obtain ⟨es', clock', hr2, hr3⟩ := hnx w2 val hw2
  refine ⟨.map es' clock', hr2, fun w3 hw3 => ?_⟩
  obtain ⟨w', hrun, hG, _, _⟩ := h0.store (Maps.Keyed.of_law KL) ht hn hinj hx (v := val)
  rw [hr3] at hrun
  injection hrun with _ hrun
  subst hrun
  refine hG.same ?_
  rw [hw3]
  exact (ChangeMaps.heap_setBlock_same hb _).symm
end
theorem hw_keep {F : Nat → Prop} {w w' : World} {g : Nat} {A : Option Addr} {n c : Nat} {mv : Value} {now : Int} {a : Nat → Nat} {K W : Nat → Int} (h : Hw F w g A n c mv now a K W) (hk : ∀ i, F i → w'.heap[i]? = w.heap[i]?) : Hw F w' g A n c mv now a K W :=
  ⟨(hk g h.fg).trans h.hg, by
    refine ⟨h.row.1, ?_⟩
    rcases h.row.2 with h2 | ⟨r, cap, cur, hv, hb, hh, rest⟩
    · exact .inl h2
    · exact .inr ⟨r, cap, cur, hv, hb, (hk r (h.fr r (by rw [hv]; rfl))).trans hh, rest⟩,
   fun j hj => (hk (a j) (h.ft j hj)).trans (h.th j hj), h.inj, h.fg, h.fr, h.ft⟩
theorem ag_keep {F : Nat → Prop} {w w' : World} {g : Nat} {now : Int} {m : List Int} (h : Ag F w g now m) (hk : ∀ i, F i → w'.heap[i]? = w.heap[i]?) (hz : w.heap.size ≤ w'.heap.size) : Ag F w' g now m := by
  obtain ⟨A, n, c, cnt, mv, a, K, W, s, M, Fh, hH, hp, hS, rfl, hFh, hM, rest⟩ := h.ex
  refine ⟨⟨A, n, c, cnt, mv, a, K, W, s, M, Fh, hw_keep hH (fun i hi => hk i (hFh i hi)), hp, hS, rfl, hFh, ?_, rest⟩, fun i hi => Nat.lt_of_lt_of_le (h.lt i hi) hz⟩
  rcases hM with h1 | ⟨mb, e, h1, h2, h3⟩
  · exact .inl h1
  · exact .inr ⟨mb, e, h1, h2, h3.same (hk mb h1)⟩
/-- What no step changes. -/
structure SC where
  ims : List Im
  A : Option Addr
  n : Nat
  c : Nat
  tw : Int
  th : Int
  gs : Nat
  gc : Nat
  most : Int
  lo : Nat
/-- What steps change. -/
structure CS where
  cnt : Int
  T : List (Int × Int)
  ks : List Nat
  hits : Int
  loads : Int
  drops : Int
  high : Int
  S : List (Int × Int)
  now : Int
def encT (l : List (Int × Int)) : List Value := l.flatMap fun t => [.int .i64 t.1, .int .i64 t.2]
def tkey (t : Int × Int) : Value := .agg (tiA t.1 t.2)
def ikey (k : Int) : Value := .int .i64 k
def idxV (T : List (Int × Int)) (t : Int × Int) : Option Value := if t ∈ T then some (.int .i64 (T.idxOf t : Nat)) else none
theorem tkey_inj (a b : Int × Int) (h : tkey a = tkey b) : a = b := by
  obtain ⟨a1, a2⟩ := a
  obtain ⟨b1, b2⟩ := b
  unfold tkey at h
  simp at h
  rw [h.1, h.2]
theorem ikey_inj (a b : Int) (h : ikey a = ikey b) : a = b := by
  unfold ikey at h; injection h
theorem encT_len (l : List (Int × Int)) : (encT l).length = l.length * 2 := by
  induction l with
  | nil => rfl
  | cons a l ih => unfold encT at *; rw [List.flatMap_cons, List.length_append, ih]; simp; omega
theorem encT_app (l m : List (Int × Int)) : encT (l ++ m) = encT l ++ encT m := by unfold encT; rw [List.flatMap_append]
theorem encT_get (l : List (Int × Int)) (k : Nat) (hk : k < l.length) : (encT l)[k * 2]? = some (.int .i64 l[k].1) ∧ (encT l)[k * 2 + 1]? = some (.int .i64 l[k].2) := by
  induction l generalizing k with
  | nil => simp at hk
  | cons a l ih =>
    have e : encT (a :: l) = [.int .i64 a.1, .int .i64 a.2] ++ encT l := by unfold encT; rw [List.flatMap_cons]
    cases k with
    | zero => rw [e]; exact ⟨rfl, rfl⟩
    | succ k =>
      obtain ⟨h1, h2⟩ := ih k (by simpa using hk)
      rw [e, List.getElem?_append_right (by simp; omega), List.getElem?_append_right (by simp; omega)]
      simp only [List.length_cons, List.length_nil, List.getElem_cons_succ]
      rw [show (k + 1) * 2 - (0 + 1 + 1) = k * 2 by omega, show (k + 1) * 2 + 1 - (0 + 1 + 1) = k * 2 + 1 by omega]
      exact ⟨h1, h2⟩
/-- A tile that there is. -/
def VT (ims : List Im) (tw th : Int) (t : Int × Int) : Prop := ∃ (j : Nat) (hj : j < ims.length), t.1 = j ∧ 0 ≤ t.2 ∧ t.2 < grN ims[j].W tw * grN ims[j].H th
/-- A tile's pixels. -/
def tlB (m : Im) (tw th i : Int) : List Int := cropL m (tlX m.W tw i) (tlY m.W tw th i) (min (tlX m.W tw i + tw) m.W) (min (tlY m.W tw th i + th) m.H - tlY m.W tw th i).toNat
/-- Only blocks in these roles, and new ones, have changed. -/
def Chg (r : Nat → Nat) (R : Nat → Prop) (w w' : World) : Prop := Only (fun b => R (r b)) w w'
section
variable {r r' : Nat → Nat} {R R' : Nat → Prop} {w w' w'' : World} {q : Nat}
theorem Chg.size (h : Chg r R w w') : w.heap.size ≤ w'.heap.size := h.bel.size
theorem Chg.same (h : Chg r R w w') {b : Nat} (hb : b < w.heap.size) (hr : ¬ R (r b)) : w'.heap[b]? = w.heap[b]? := h.out b hb hr
theorem Chg.bk {g : Nat} {t : TypeId} {cs : Array Value} (h : Chg r R w w') (k : Bk w g t cs) (hr : ¬ R (r g)) : Bk w' g t cs := (h.same k.lt hr).trans k
theorem Chg.own {base n size : Nat} {e : TypeId} {v : Value} {xs : List Value} (h : Chg r R w w') (k : w.ownsRow base e size v n xs) (hr : ∀ b, v.ownBlock = some b → ¬ R (r b)) : w'.ownsRow base e size v n xs := by
  rcases k.2 with ⟨h1, h2⟩ | ⟨g, cap, cur, hv, h0, hh, h1, h2, h3, hx⟩
  · exact ⟨k.1, .inl ⟨h1, h2⟩⟩
  · refine ⟨k.1, .inr ⟨g, cap, cur, hv, h0, ?_, h1, h2, h3, hx⟩⟩
    have hlt : g < w.heap.size := by
      rcases Nat.lt_or_ge g w.heap.size with hl | hl
      · exact hl
      · rw [Array.getElem?_eq_none hl] at hh; cases hh
    rw [h.same hlt (hr g (by subst hv; rfl))]; exact hh
theorem Chg.gm {K : Type} {kv : K → Value} {kt : TypeId} {b n : Nat} {M : K → Option Value} (h : Chg r R w w') (k : Gm Tryz.prog kt kv w b n M) (hr : ¬ R (r b)) : Gm Tryz.prog kt kv w' b n M := by
  obtain ⟨D, ⟨es, clock, hb, F, hs, hD⟩, h2⟩ := k
  have hlt : b < w.heap.size := by
    rcases Nat.lt_or_ge b w.heap.size with hl | hl
    · exact hl
    · rw [Array.getElem?_eq_none hl] at hb; cases hb
  exact ⟨D, ⟨es, clock, (h.same hlt hr).trans hb, F, hs, hD⟩, h2⟩
theorem Chg.ag {F : Nat → Prop} {g : Nat} {now : Int} {m : List Int} (h : Chg r R w w') (k : Ag F w g now m) (hr : ∀ b, F b → ¬ R (r b)) : Ag F w' g now m :=
  ag_keep k (fun i hi => h.same (k.lt i hi) (hr i hi)) h.size
/-- A list that reads, in blocks without a role. -/
def RdR (w : World) (r : Nat → Nat) (A : Option Addr) (xs : List Value) : Prop := ∀ k (h : k < xs.length), ∃ b o, A = some ⟨b, o, none⟩ ∧ r b = 0 ∧ b < w.heap.size ∧ w.cell? ⟨b, o + k, none⟩ = some xs[k]
theorem RdR.rd {A : Option Addr} {xs : List Value} (h : RdR w r A xs) : Rd w w.heap.size A xs := fun k hk => by
  obtain ⟨b, o, e, _, h2, h3⟩ := h k hk
  exact ⟨b, o, e, h2, h3⟩
theorem RdR.rdl {A : Option Addr} {xs : List Value} (h : RdR w r A xs) : RdL w 0 A xs := h.rd.rdl
theorem RdR.chg {A : Option Addr} {xs : List Value} (h : RdR w r A xs) (g : Chg r R w w') (h0 : ¬ R 0) : RdR w' r A xs := fun k hk => by
  obtain ⟨b, o, e, h1, h2, h3⟩ := h k hk
  exact ⟨b, o, e, h1, Nat.lt_of_lt_of_le h2 g.size, (World.cell?_of_block (g.same h2 (by rw [h1]; exact h0))).trans h3⟩
theorem RdR.role {A : Option Addr} {xs : List Value} (h : RdR w r A xs) (hr : ∀ b, b < w.heap.size → r b = 0 → r' b = 0) : RdR w r' A xs := fun k hk => by
  obtain ⟨b, o, e, h1, h2, h3⟩ := h k hk
  exact ⟨b, o, e, hr b h2 h1, h2, h3⟩
def ImsR (w : World) (r : Nat → Nat) (A : Option Addr) (ims : List Im) : Prop := ∃ xs : List (List Value), RdR w r A xs.flatten ∧ xs.length = ims.length ∧ ∀ (i : Nat) (h : i < ims.length) (h' : i < xs.length), ∃ (Ai : Option Addr) (c : Nat), xs[i] = [.int .i64 ims[i].W, .int .i64 ims[i].H, .int .i64 ims[i].C, .slice Ai ims[i].px.length c] ∧ ims[i].px.length ≤ c ∧ RdR w r Ai (ims[i].px.map (Value.int .u8))
variable {A : Option Addr} {ims : List Im}
theorem ImsR.at_ (h : ImsR w r A ims) : ImsAt w 0 A ims := by
  obtain ⟨xs, h1, h2, h3⟩ := h
  exact ⟨xs, h1.rdl, h2, fun i a b => by obtain ⟨Ai, c, e1, e2, e3⟩ := h3 i a b; exact ⟨Ai, c, e1, e2, e3.rdl⟩⟩
theorem ImsR.chg (h : ImsR w r A ims) (g : Chg r R w w') (h0 : ¬ R 0) : ImsR w' r A ims := by
  obtain ⟨xs, h1, h2, h3⟩ := h
  exact ⟨xs, h1.chg g h0, h2, fun i a b => by obtain ⟨Ai, c, e1, e2, e3⟩ := h3 i a b; exact ⟨Ai, c, e1, e2, e3.chg g h0⟩⟩
theorem ImsR.role (h : ImsR w r A ims) (hr : ∀ b, b < w.heap.size → r b = 0 → r' b = 0) : ImsR w r' A ims := by
  obtain ⟨xs, h1, h2, h3⟩ := h
  exact ⟨xs, h1.role hr, h2, fun i a b => by obtain ⟨Ai, c, e1, e2, e3⟩ := h3 i a b; exact ⟨Ai, c, e1, e2, e3.role hr⟩⟩
/-- A tile's image, as it stands in the map. -/
def HasIm (w : World) (r : Nat → Nat) (ims : List Im) (tw th : Int) (t : Int × Int) (v : Value) : Prop :=
  ∃ (j : Nat) (hj : j < ims.length) (s : Value), t.1 = j ∧ (0 ≤ t.2 ∧ t.2 < grN ims[j].W tw * grN ims[j].H th) ∧
    v = .agg #[.int .i64 (min (tlX ims[j].W tw t.2 + tw) ims[j].W - tlX ims[j].W tw t.2), .int .i64 (min (tlY ims[j].W tw th t.2 + th) ims[j].H - tlY ims[j].W tw th t.2), .int .i64 ims[j].C, s] ∧
    w.ownsRow 0 5 1 s (tlB ims[j] tw th t.2).length ((tlB ims[j] tw th t.2).map (Value.int .u8)) ∧ ∀ b, s.ownBlock = some b → r b = 0
theorem HasIm.chg {tw th : Int} {t : Int × Int} {v : Value} (h : HasIm w r ims tw th t v) (g : Chg r R w w') (h0 : ¬ R 0) : HasIm w' r ims tw th t v := by
  obtain ⟨j, hj, s, e1, e2, e3, e4, e5⟩ := h
  exact ⟨j, hj, s, e1, e2, e3, g.own e4 (fun b hb => by rw [e5 b hb]; exact h0), e5⟩
theorem HasIm.role {tw th : Int} {t : Int × Int} {v : Value} (h : HasIm w r ims tw th t v) (hr : ∀ b, b < w.heap.size → r b = 0 → r' b = 0) : HasIm w r' ims tw th t v := by
  obtain ⟨j, hj, s, e1, e2, e3, e4, e5⟩ := h
  exact ⟨j, hj, s, e1, e2, e3, e4, fun b hb => hr b (e4.lt b hb).2 (e5 b hb)⟩
theorem RdR.step {A : Option Addr} {xs : List Value} (h : RdR w r A xs) (g : Chg r R w w') (h0 : ¬ R 0) (hx : ∀ b, b < w.heap.size → r' b = r b) : RdR w' r' A xs := fun k hk => by
  obtain ⟨b, o, e, h1, h2, h3⟩ := h k hk
  exact ⟨b, o, e, (hx b h2).trans h1, Nat.lt_of_lt_of_le h2 g.size, (World.cell?_of_block (g.same h2 (by rw [h1]; exact h0))).trans h3⟩
theorem ImsR.step (h : ImsR w r A ims) (g : Chg r R w w') (h0 : ¬ R 0) (hx : ∀ b, b < w.heap.size → r' b = r b) : ImsR w' r' A ims := by
  obtain ⟨xs, h1, h2, h3⟩ := h
  exact ⟨xs, h1.step g h0 hx, h2, fun i a b => by obtain ⟨Ai, c, e1, e2, e3⟩ := h3 i a b; exact ⟨Ai, c, e1, e2, e3.step g h0 hx⟩⟩
theorem HasIm.step {tw th : Int} {t : Int × Int} {v : Value} (h : HasIm w r ims tw th t v) (g : Chg r R w w') (h0 : ¬ R 0) (hx : ∀ b, b < w.heap.size → r' b = r b) : HasIm w' r' ims tw th t v := by
  obtain ⟨j, hj, s, e1, e2, e3, e4, e5⟩ := h
  exact ⟨j, hj, s, e1, e2, e3, g.own e4 (fun b hb => by rw [e5 b hb]; exact h0), fun b hb => (hx b (e4.lt b hb).2).trans (e5 b hb)⟩
end
end Go.Proofs.YtahiaeaobbofbaaGreat
end
section
set_option linter.unusedVariables false
namespace Go.Proofs.YtahiaeaobbofbaaGreat
open Go.RowKit
abbrev caA (K : SC) (s : CS) (kb ab ga : Nat) (vt vs : Value) : Array Value :=
  #[.pointer (some ⟨K.gs, 0, none⟩), .int .i64 K.most, .map (some kb), vt, .map (some ab), .pointer (some ⟨ga, 0, none⟩), .int .i64 s.hits, .int .i64 s.loads, .int .i64 s.drops, .int .i64 s.high, vs]
def natI (k : Nat) : Int := k
/-- A cache, part by part. -/
structure CaP (K : SC) (U : Nat) (s : CS) (r : Nat → Nat) (w : World) (kb ab ga : Nat) (vt vs : Value) (nk na : Nat) (AM : Int → Option Value) : Prop where
  cb : Bk w K.gc 41 (caA K s kb ab ga vt vs)
  so : Bk w K.gs 79 (soA K.A K.n K.c K.tw K.th s.cnt)
  im : ImsR w r K.A K.ims
  km : Gm Tryz.prog 48 tkey w kb nk (idxV s.T)
  am : Gm Tryz.prog 3 ikey w ab na AM
  tr : w.ownsRow 0 48 2 vt s.T.length (encT s.T)
  sr : w.ownsRow 0 48 2 vs s.S.length (encT s.S)
  ag : Ag (fun b => r b = 7) w ga s.now (s.ks.map natI)
  rc : r K.gc = 1
  rs : r K.gs = 2
  rk : r kb = 3
  ra : r ab = 4
  rt : ∀ b, vt.ownBlock = some b → r b = 5
  rv : ∀ b, vs.ownBlock = some b → r b = 6
  rg : r ga = 7
  lt : ∀ b, r b ≠ 0 → b < w.heap.size
  ge : ∀ b, r b ≠ 0 → K.lo ≤ b
  hit : ∀ k ∈ s.ks, ∃ (hk : k < s.T.length) (v : Value), AM (natI k) = some v ∧ HasIm w r K.ims K.tw K.th s.T[k] v
  mis : ∀ z : Int, (∀ k ∈ s.ks, natI k ≠ z) → AM z = none
  len : K.ims.length = K.n
  small : K.n ≤ 100000
  ck : ∀ m ∈ K.ims, checkC m.W m.H m.C m.px.length = 0
  tws : (1 ≤ K.tw ∧ K.tw ≤ 4096) ∧ (1 ≤ K.th ∧ K.th ≤ 4096)
  tv : ∀ t ∈ s.T, VT K.ims K.tw K.th t
  nd : s.T.Nodup
  bk : nk ≤ U ∧ na ≤ U ∧ s.T.length ≤ U ∧ s.S.length ≤ U
  bc : (0 ≤ s.now ∧ s.now ≤ U) ∧ (0 ≤ s.hits ∧ s.hits ≤ U) ∧ (0 ≤ s.loads ∧ s.loads ≤ U) ∧ (0 ≤ s.drops ∧ s.drops ≤ U) ∧ (0 ≤ s.cnt ∧ s.cnt ≤ U)
  bm : 1 ≤ K.most ∧ K.most ≤ 65536
  bh : 0 ≤ s.high ∧ s.high ≤ K.most
  bl : (s.ks.length : Int) ≤ K.most
  kd : s.ks.Nodup
/-- From one world to a later one: what has no role lies as it lay, and roles stay. -/
structure Step (r : Nat → Nat) (w : World) (r' : Nat → Nat) (w' : World) : Prop where
  chg : Chg r (fun q => q ≠ 0) w w'
  ext : ∀ b, b < w.heap.size → r' b = r b
section
variable {r r' r'' : Nat → Nat} {w w' w'' : World} {K : SC} {U : Nat} {s : CS} {kb ab ga nk na : Nat} {vt vs : Value} {AM : Int → Option Value}
theorem Step.refl (r : Nat → Nat) (w : World) : Step r w r w := ⟨only_refl _ w, fun _ _ => rfl⟩
theorem Step.size (h : Step r w r' w') : w.heap.size ≤ w'.heap.size := h.chg.size
theorem Step.trans (h : Step r w r' w') (g : Step r' w' r'' w'') : Step r w r'' w'' :=
  ⟨Only.trans h.chg g.chg (fun i hi => by
      by_cases hl : i < w.heap.size
      · left; rw [← h.ext i hl]; exact hi
      · right; omega), fun b hb => (g.ext b (Nat.lt_of_lt_of_le hb h.size)).trans (h.ext b hb)⟩
theorem Step.of_below (hb : Below w.heap.size w w') : Step r w r w' := ⟨only_below hb, fun _ _ => rfl⟩
theorem Step.bk {g : Nat} {t : TypeId} {cs : Array Value} (h : Step r w r' w') (k : Bk w g t cs) (hr : r g = 0) : Bk w' g t cs := h.chg.bk k (by simp [hr])
theorem Step.below {B : Nat} {W : World} (h : Step r w r' w') (hb : Below B W w) (hB : B ≤ w.heap.size) (hge : ∀ b, r b ≠ 0 → B ≤ b) : Below B W w' :=
  hb.trans ⟨h.chg.bel.os, h.chg.bel.tape, h.chg.bel.output, h.chg.bel.size, fun i hi => h.chg.out i (by omega) (fun e => by have := hge i e; omega)⟩
theorem CaP.nx (h : CaP K U s r w kb ab ga vt vs nk na AM) (hb : Below w.heap.size w w') : CaP K U s r w' kb ab ga vt vs nk na AM := by
  have g : Chg r (fun _ => False) w w' := only_below hb
  exact { h with
    cb := h.cb.nx hb, so := h.so.nx hb, im := h.im.chg g (fun e => e), km := g.gm h.km (fun e => e), am := g.gm h.am (fun e => e),
    tr := g.own h.tr (fun _ _ e => e), sr := g.own h.sr (fun _ _ e => e), ag := g.ag h.ag (fun _ _ e => e),
    lt := fun b hr => Nat.lt_of_lt_of_le (h.lt b hr) hb.size,
    hit := fun k hk => by obtain ⟨h1, v, h2, h3⟩ := h.hit k hk; exact ⟨h1, v, h2, h3.chg g (fun e => e)⟩ }
theorem CaP.sto (h : CaP K U s r w kb ab ga vt vs nk na AM) : Sto 0 w K.gs K.A K.n K.c K.tw K.th s.cnt K.ims := ⟨h.so, h.im.at_, h.len, h.small, h.ck, h.tws⟩
theorem CaP.fresh (h : CaP K U s r w kb ab ga vt vs nk na AM) (b : Nat) (hb : w.heap.size ≤ b) : r b = 0 := by
  rcases Nat.eq_zero_or_pos (r b) with h0 | h0
  · exact h0
  · have := h.lt b (by omega); omega
/-- A tile gets a number. -/
theorem CaP.key_new (h : CaP K U s r w kb ab ga vt vs nk na AM) {t : Int × Int} (hv : VT K.ims K.tw K.th t) (ht : t ∉ s.T) {vt' : Value}
    (g : Chg r (fun q => q = 1 ∨ q = 3 ∨ q = 5) w w') (cb' : Bk w' K.gc 41 (caA K s kb ab ga vt' vs)) (km' : Gm Tryz.prog 48 tkey w' kb (nk + 1) (fun z => if z = t then some (.int .i64 (s.T.length : Nat)) else idxV s.T z))
    (tr' : w'.ownsRow 0 48 2 vt' (s.T.length + 1) (encT s.T ++ encT [t])) (ho : vt'.ownBlock = vt.ownBlock ∨ ∃ b, vt'.ownBlock = some b ∧ w.heap.size ≤ b) (hlo : K.lo ≤ w.heap.size) :
    ∃ r', CaP K (U + 1) { s with T := s.T ++ [t] } r' w' kb ab ga vt' vs (nk + 1) na AM ∧ Step r w r' w' := by
  have hext : ∀ b, b < w.heap.size → (if vt'.ownBlock = some b then 5 else r b) = r b := fun b hb => by
    by_cases e : vt'.ownBlock = some b
    · rw [if_pos e]
      rcases ho with h1 | ⟨b', h1, h2⟩
      · exact (h.rt b (by rw [← h1]; exact e)).symm
      · rw [e] at h1; injection h1 with h1; omega
    · rw [if_neg e]
  have hz := g.size
  have hlt : ∀ b, r b ≠ 0 → b < w.heap.size := h.lt
  have hnew : ∀ b, vt'.ownBlock = some b → b < w'.heap.size := fun b hb => (tr'.lt b hb).2
  have hag : Ag (fun b => (if vt'.ownBlock = some b then 5 else r b) = 7) w' ga s.now (s.ks.map natI) := by
    have h1 := g.ag h.ag (fun b hb e => by rcases e with e | e | e <;> simp_all)
    have h2 : (fun b => (if vt'.ownBlock = some b then 5 else r b) = 7) = fun b => r b = 7 := by
      funext b
      apply propext
      constructor
      · intro e
        by_cases e2 : vt'.ownBlock = some b
        · rw [if_pos e2] at e; cases e
        · rw [if_neg e2] at e; exact e
      · intro e
        rw [hext b (hlt b (by omega))]; exact e
    rw [h2]; exact h1
  have hidx : (fun z => if z = t then some (Value.int .i64 (s.T.length : Nat)) else idxV s.T z) = idxV (s.T ++ [t]) := by
    funext z
    unfold idxV
    by_cases e : z = t
    · subst e
      rw [if_pos rfl, if_pos (by simp), List.idxOf_append, if_neg ht]
      simp
    · rw [if_neg e]
      by_cases e2 : z ∈ s.T
      · rw [if_pos e2, if_pos (by simp [e2]), List.idxOf_append, if_pos e2]
      · rw [if_neg e2, if_neg (by simp [e2, e])]
  rw [hidx] at km'
  rw [← encT_app] at tr'
  obtain ⟨b1, b2, b3, b4⟩ := h.bk
  obtain ⟨c1, c2, c3, c4, c5⟩ := h.bc
  refine ⟨fun b => if vt'.ownBlock = some b then 5 else r b, ?_, ⟨⟨g.bel, fun i hi hF => g.out i hi (fun e => hF (by rcases e with e | e | e <;> (rw [e]; decide)))⟩, hext⟩⟩
  exact {
    cb := cb', so := g.bk h.so (by rw [h.rs]; decide), im := h.im.step g (by decide) hext,
    km := km', am := g.gm h.am (by rw [h.ra]; decide), tr := by simpa using tr', sr := g.own h.sr (fun b hb => by rw [h.rv b hb]; decide), ag := hag,
    rc := by rw [hext _ h.cb.lt]; exact h.rc, rs := by rw [hext _ h.so.lt]; exact h.rs, rk := by rw [hext _ (hlt kb (by rw [h.rk]; decide))]; exact h.rk, ra := by rw [hext _ (hlt ab (by rw [h.ra]; decide))]; exact h.ra,
    rt := fun b hb => by rw [if_pos hb], rv := fun b hb => by rw [hext b (hlt b (by rw [h.rv b hb]; decide))]; exact h.rv b hb, rg := by rw [hext _ (hlt ga (by rw [h.rg]; decide))]; exact h.rg,
    lt := fun b hr => by
      by_cases e : vt'.ownBlock = some b
      · exact hnew b e
      · rw [if_neg e] at hr; exact Nat.lt_of_lt_of_le (hlt b hr) hz,
    ge := fun b hr => by
      by_cases hl : b < w.heap.size
      · rw [hext b hl] at hr; exact h.ge b hr
      · omega,
    hit := fun k hk => by
      obtain ⟨h1, v, h2, h3⟩ := h.hit k hk
      refine ⟨by simp; omega, v, h2, ?_⟩
      rw [List.getElem_append_left h1]
      exact h3.step g (by decide) hext,
    mis := h.mis, len := h.len, small := h.small, ck := h.ck, tws := h.tws,
    tv := fun x hx => by
      rcases List.mem_append.1 hx with h1 | h1
      · exact h.tv x h1
      · rw [List.mem_singleton.1 h1]; exact hv,
    nd := List.nodup_append.2 ⟨h.nd, by simp, fun a ha b hb => by rw [List.mem_singleton.1 hb]; exact fun e => ht (e ▸ ha)⟩,
    bk := ⟨by omega, by omega, by simp; omega, by simp; omega⟩,
    bc := ⟨by simp; omega, by simp; omega, by simp; omega, by simp; omega, by simp; omega⟩,
    bm := h.bm, bh := h.bh, bl := h.bl, kd := h.kd }
end
end Go.Proofs.YtahiaeaobbofbaaGreat
end
section
set_option linter.unusedVariables false
namespace Go.Proofs.YtahiaeaobbofbaaGreat
open Go.RowKit
theorem ca_laidOut : laidOutB Tryz.prog = true := by kernel_rfl
theorem tile_law : WideMaps.KeyLaw Tryz.prog 48 := deep_law_gate ca_laidOut (of_decide_eq_true (by kernel_rfl)) (of_decide_eq_true (by kernel_rfl)) (by kernel_rfl) (by kernel_rfl)
abbrev R64 (k : Int) : Prop := -9223372036854775808 ≤ k ∧ k ≤ 9223372036854775807
theorem key2 {P : Program} {T I : TypeId} {f0 f1 : Field} {a b : Int} (ht : P.underlying T = some (.struct #[f0, f1])) (e0 : f0.type = I ∧ f0.offset = 0 ∧ (f0.name != "_") = true) (e1 : f1.type = I ∧ f1.offset = 1 ∧ (f1.name != "_") = true)
    (hk : P.keyType T = true) (hc : P.cellsOf T = 2) (hi : P.underlying I = some (.int .i64)) (hci : P.cellsOf I = 1) (h0 : 1 ≤ P.types.size) (w1 : (Lit.int .i64 a).wf = true) (w2 : (Lit.int .i64 b).wf = true) :
    ∃ l, keyOf P T (.agg #[.int .i64 a, .int .i64 b]) = some l := by
  obtain ⟨N, hN⟩ : ∃ N, P.types.size + 1 = N + 2 := ⟨P.types.size - 1, by omega⟩
  obtain ⟨a0, a1, a2⟩ := e0
  obtain ⟨b0, b1, b2⟩ := e1
  unfold keyOf
  rw [ht]
  simp only [hk, Value.formed, ht, hc, Value.cells, hN]
  unfold Program.keyLits
  rw [ht]
  simp only [hc]
  simp [a0, a1, a2, b0, b1, b2, hci, Program.keyLits, hi, w1, w2]
theorem tile_key (t : Int × Int) (h1 : R64 t.1) (h2 : R64 t.2) : ∃ l, keyOf Tryz.prog 48 (tkey t) = some l :=
  key2 Tryz.underlying48 ⟨rfl, rfl, by decide⟩ ⟨rfl, rfl, by decide⟩ (by kernel_rfl) (by kernel_rfl) Tryz.underlying3 (by kernel_rfl) (of_decide_eq_true (by kernel_rfl)) (lit_ok h1) (lit_ok h2)
theorem int_key (k : Int) (h : R64 k) : keyOf Tryz.prog 3 (ikey k) = some (.int .i64 k) := Maps.keyOf_int_mk Tryz.underlying3 (lit_ok h)
theorem zero_int (w : World) : (zeroValue 3).run Tryz.prog w = .ok (.int .i64 0) w := by
  have hzz : Tryz.t3.zero = some (.int .i64 0) := by kernel_rfl
  simp [zeroValue, hzz]
theorem zero_img (w : World) : (zeroValue 44).run Tryz.prog w = .ok (.agg #[.int .i64 0, .int .i64 0, .int .i64 0, .slice none 0 0]) w := by
  have hzz : Tryz.t44.zero = some (.agg #[.int .i64 0, .int .i64 0, .int .i64 0, .slice none 0 0]) := by kernel_rfl
  simp [zeroValue, hzz]
theorem ti_info : (Tryz.prog.info? 48).map (fun i => (i.zero, i.size, i.bytes)) = some (some (.agg #[.int .i64 0, .int .i64 0]), 2, 16) := by kernel_rfl
def addT (T : List (Int × Int)) (t : Int × Int) : List (Int × Int) := if t ∈ T then T else T ++ [t]
section
variable {r r' r'' : Nat → Nat} {w w' w'' : World} {K : SC} {U : Nat} {s : CS} {kb ab ga nk na : Nat} {vt vs : Value} {AM : Int → Option Value}
theorem CaP.more (h : CaP K U s r w kb ab ga vt vs nk na AM) {V : Nat} (hV : U ≤ V) : CaP K V s r w kb ab ga vt vs nk na AM := by
  obtain ⟨b1, b2, b3, b4⟩ := h.bk
  obtain ⟨c1, c2, c3, c4, c5⟩ := h.bc
  exact { h with bk := ⟨by omega, by omega, by omega, by omega⟩, bc := ⟨by omega, by omega, by omega, by omega, by omega⟩ }
theorem Bk.cell11' {w : World} {g : Nat} {t : TypeId} {v0 v1 v2 v3 v4 v5 v6 v7 v8 v9 v10 : Value} (h : Bk w g t #[v0, v1, v2, v3, v4, v5, v6, v7, v8, v9, v10]) : w.cell? ⟨g, 0, none⟩ = some v0 ∧ w.cell? ⟨g, 1, none⟩ = some v1 ∧ w.cell? ⟨g, 2, none⟩ = some v2 ∧ w.cell? ⟨g, 3, none⟩ = some v3 ∧ w.cell? ⟨g, 4, none⟩ = some v4 ∧ w.cell? ⟨g, 5, none⟩ = some v5 ∧ w.cell? ⟨g, 6, none⟩ = some v6 ∧ w.cell? ⟨g, 7, none⟩ = some v7 ∧ w.cell? ⟨g, 8, none⟩ = some v8 ∧ w.cell? ⟨g, 9, none⟩ = some v9 ∧ w.cell? ⟨g, 10, none⟩ = some v10 :=
  ⟨h.cell 0, h.cell 1, h.cell 2, h.cell 3, h.cell 4, h.cell 5, h.cell 6, h.cell 7, h.cell 8, h.cell 9, h.cell 10⟩
set_option maxRecDepth 100000 in
set_option maxHeartbeats 16000000 in
theorem ckey_old (h : CaP K U s r w kb ab ga vt vs nk na AM) (t : Int × Int) (h1 : R64 t.1) (h2 : R64 t.2) (ht : t ∈ s.T) :
    Calls Tryz.prog 51 #[.pointer (some ⟨K.gc, 0, none⟩), .agg (tiA t.1 t.2)] w fun e w' => e = .returned (.int .i64 (s.T.idxOf t : Nat)) ∧ Below w.heap.size w w' := by
  obtain ⟨l, hl⟩ := tile_key t h1 h2
  have hL := (Lie.start w).alloc (tiA t.1 t.2) 48
  have hb := hL.bel
  have hx := h.nx hb
  have k0 : Bk _ w.heap.size 48 (tiA t.1 t.2) := hL.k 0 (by simp)
  have hlk : ∀ q, (Instr.lookup 34 (.map (some kb)) (.agg (tiA t.1 t.2)) true).run Tryz.prog ((w.alloc (.cells (tiA t.1 t.2) 48)).drewN q) = .ok (.tuple #[.int .i64 (s.T.idxOf t : Nat), .bool true]) ((w.alloc (.cells (tiA t.1 t.2) 48)).drewN q) := fun q => by
    have := (hx.km.same (w' := (w.alloc (.cells (tiA t.1 t.2) 48)).drewN q) rfl).look (Maps.Keyed.of_law tile_law) Tryz.underlying34 (zero_int _) hl
    rw [show idxV s.T t = some (.int .i64 (s.T.idxOf t : Nat)) from if_pos ht] at this
    exact this
  obtain ⟨c0, c1, c2, c3, c4, c5, c6, c7, c8, c9, c10⟩ := hx.cb.cell11'
  obtain ⟨d0, d1⟩ := k0.cell2
  clear hx h hl ht k0 c0 c1 c3 c4 c5 c6 c7 c8 c9 c10
  obtain ⟨t1, t2⟩ := t
  simp only at *
  generalize s.T.idxOf (t1, t2) = I at *
  go_enter Tryz.func51, Tryz.ntmps51
  go_upto_region 1 with fail
  go_quiet ((fail))
  go_wp2_with fail
  go_returns
  exact ⟨rfl, below_drewN hb _⟩
theorem ca_append_run {P : Program} {o : Oper} {a : Act} {K : Act → World → Prop} {Q : Exit → Act → World → Prop} {w w' : World} {v v' sl : Value} (s x : Operand) (t : TypeId)
    (ho : o.op = .call { callee := .builtin .append, args := #[s, x], argTypes := #[t, t] }) (hs : a.eval s = v) (hx : a.eval x = sl)
    (hr : (Builtin.append_ #[t, t] o.type #[v, sl]).run P w = .ok v' w') (hK : K (a.put o.dst v') w') : Oper.wp P o a w K Q := by
  unfold Oper.wp execOp
  simp only [ho, resolve, invoke, builtin, Sem.run_bind, Sem.run_pure, Result.andThen_ok, List.map_toArray, List.map_cons, List.map_nil, hs, hx, hr]
  exact hK
theorem ti_app (W : World) (base k : Nat) (v : Value) (xs : List Value) (a b : Int) (ho : W.ownsRow base 48 2 v k xs) (hb : base ≤ W.heap.size) (hk : k ≤ 100000) :
    ∃ v' w', (Builtin.append_ #[35, 35] 35 #[v, .slice (some ⟨W.heap.size, 0, none⟩) 1 1]).run Tryz.prog (W.alloc (.cells #[.int .i64 a, .int .i64 b] 48)) = .ok v' w' ∧ w'.ownsRow base 48 2 v' (k + 1) (xs ++ [.int .i64 a, .int .i64 b]) ∧ (W.alloc (.cells #[.int .i64 a, .int .i64 b] 48)).grownBy w' v.ownBlock ∧ (v'.ownBlock = v.ownBlock ∨ v'.ownBlock = some (W.heap.size + 1)) := by
  obtain ⟨i, hi', hz, hs0, hby⟩ := info_parts ti_info
  obtain ⟨v', w', hr, h2, h3, _, h5⟩ := run_append_own_at (P := Tryz.prog) (W.alloc (.cells #[.int .i64 a, .int .i64 b] 48)) base 35 35 48 i _ 2 16 Tryz.underlying35 hi' hz hs0 hby rfl (by decide) v k xs (ho.alloc _) ⟨W.heap.size, 0, none⟩ 1 1 [.int .i64 a, .int .i64 b] rfl
    (fun j u hj => by rw [add0, World.cell?_alloc_new]; simpa using hj) (by simp [Value.oneCell']) (by simp [maxLen]; omega) (by omega) (by simp; omega)
  exact ⟨v', w', hr, h2, h3, by simpa using h5⟩
theorem sb_other (w : World) (b : Nat) (o : Obj) (i : Nat) (h : i ≠ b) : (ChangeMaps.setBlock w b o).heap[i]? = w.heap[i]? := by
  simp [ChangeMaps.setBlock, Ne.symm h]
theorem sb_same (w : World) (b : Nat) (o : Obj) (h : b < w.heap.size) : (ChangeMaps.setBlock w b o).heap[b]? = some o := by
  simp [ChangeMaps.setBlock, h]
theorem own_same {w w' : World} {base : Nat} {e : TypeId} {size n : Nat} {v : Value} {xs : List Value} (h : w.ownsRow base e size v n xs) (hs : ∀ b, v.ownBlock = some b → w'.heap[b]? = w.heap[b]?) : w'.ownsRow base e size v n xs := by
  rcases h.2 with ⟨h1, h2⟩ | ⟨g, cap, cur, hv, h0, hh, rest⟩
  · exact ⟨h.1, .inl ⟨h1, h2⟩⟩
  · exact ⟨h.1, .inr ⟨g, cap, cur, hv, h0, (hs g (by subst hv; rfl)).trans hh, rest⟩⟩
theorem sb_below (w : World) (b : Nat) (o : Obj) : Below 0 w (ChangeMaps.setBlock w b o) := ⟨rfl, rfl, rfl, by simp [ChangeMaps.setBlock], fun i hi => by omega⟩
set_option maxRecDepth 100000 in
set_option maxHeartbeats 16000000 in
theorem ckey_new (h : CaP K U s r w kb ab ga vt vs nk na AM) (hU : U ≤ 90000) (t : Int × Int) (h1 : R64 t.1) (h2 : R64 t.2) (hv : VT K.ims K.tw K.th t) (ht : t ∉ s.T) (hlo : K.lo ≤ w.heap.size) :
    Calls Tryz.prog 51 #[.pointer (some ⟨K.gc, 0, none⟩), .agg (tiA t.1 t.2)] w fun e w' => e = .returned (.int .i64 (s.T.length : Nat)) ∧ ∃ r' vt', CaP K (U + 1) { s with T := s.T ++ [t] } r' w' kb ab ga vt' vs (nk + 1) na AM ∧ Step r w r' w' := by
  obtain ⟨l, hl⟩ := tile_key t h1 h2
  have hL := (Lie.start w).alloc (tiA t.1 t.2) 48
  have hb := hL.bel
  have hx := h.nx hb
  have k0 : Bk _ w.heap.size 48 (tiA t.1 t.2) := hL.k 0 (by simp)
  have hlk : ∀ q, (Instr.lookup 34 (.map (some kb)) (.agg (tiA t.1 t.2)) true).run Tryz.prog ((w.alloc (.cells (tiA t.1 t.2) 48)).drewN q) = .ok (.tuple #[.int .i64 0, .bool false]) ((w.alloc (.cells (tiA t.1 t.2) 48)).drewN q) := fun q => by
    have := (hx.km.same (w' := (w.alloc (.cells (tiA t.1 t.2) 48)).drewN q) rfl).look (Maps.Keyed.of_law tile_law) Tryz.underlying34 (zero_int _) hl
    rw [show idxV s.T t = none from if_neg ht] at this
    exact this
  obtain ⟨Av, cv, rfl, _, _, _, _⟩ := own_form h.tr
  have hkbw : kb < w.heap.size := h.lt kb (by rw [h.rk]; decide)
  have hgcw : K.gc < w.heap.size := h.cb.lt
  have hne : K.gc ≠ kb := fun e => by have e1 := h.rc; rw [e, h.rk] at e1; cases e1
  have hvb : ∀ b, (Value.slice Av s.T.length cv).ownBlock = some b → b < w.heap.size ∧ b ≠ K.gc ∧ b ≠ kb := fun b hb => by
    have e1 := h.rt b hb
    exact ⟨(h.tr.lt b hb).2, (fun e => by rw [e, h.rc] at e1; cases e1), (fun e => by rw [e, h.rk] at e1; cases e1)⟩
  obtain ⟨bT1, bT2, bT3, bT4⟩ := h.bk
  obtain ⟨c0, c1, c2, c3, c4, c5, c6, c7, c8, c9, c10⟩ := hx.cb.cell11'
  obtain ⟨d0, d1⟩ := k0.cell2
  clear c0 c1 c4 c5 c6 c7 c8 c9 c10
  obtain ⟨t1, t2⟩ := t
  simp only at *
  have HX := Lib.hid hx
  have H := Lib.hid h
  have HT := Lib.hid ht
  have HV := Lib.hid hv
  have HLk := Lib.hid hl
  have HLO := Lib.hid hlo
  obtain ⟨gc, hgc⟩ : ∃ gc, K.gc = gc := ⟨_, rfl⟩
  rw [hgc] at c2 c3 hgcw hne hvb ⊢
  have HGC := Lib.hid hgc
  clear hx h ht hv hl hlo hgc k0
  go_enter Tryz.func51, Tryz.ntmps51
  go_upto_region 1 with fail
  go_quiet ((fail))
  rename_i nq
  obtain ⟨w2, hw2⟩ : ∃ w2 : World, (w.alloc (.cells (tiA t1 t2) 48)).drewN nq = w2 := ⟨_, rfl⟩
  have hx2 : CaP K U s r w2 kb ab ga (.slice Av s.T.length cv) vs nk na AM := by rw [← hw2]; exact HX.out.nx (below_drewN (Below.refl _ _) nq)
  have hb2 : Below w.heap.size w w2 := by rw [← hw2]; exact below_drewN hb nq
  have c2' : w2.cell? ⟨gc, 2, none⟩ = some (.map (some kb)) := by rw [← hw2]; exact c2
  have c3' : w2.cell? ⟨gc, 3, none⟩ = some (.slice Av s.T.length cv) := by rw [← hw2]; exact c3
  have d0' : w2.cell? ⟨w.heap.size, 0, none⟩ = some (.int .i64 t1) := by rw [← hw2]; exact d0
  have d1' : w2.cell? ⟨w.heap.size, 1, none⟩ = some (.int .i64 t2) := by rw [← hw2]; exact d1
  have hz2 : w.heap.size < w2.heap.size := by rw [← hw2]; simp
  rw [hw2]
  clear hw2 c2 c3 d0 d1 hlk hb hL HX
  go_upto_region 4 with fail
  obtain ⟨v9, w9, hap, hown9, hg9, hvo⟩ := ti_app w2.drew 0 s.T.length _ _ t1 t2 hx2.tr (Nat.zero_le _) (by omega)
  obtain ⟨A9, c9, rfl, _⟩ := own_form hown9
  have hbA : Below w2.heap.size w2 (w2.drew.alloc (.cells #[.int .i64 t1, .int .i64 t2] 48)) := ((Below.refl w2.heap.size w2).drew).alloc (Nat.le_refl _) _
  have h9i : ∀ i, i < w2.heap.size → (∀ b, (Value.slice Av s.T.length cv).ownBlock = some b → i ≠ b) → w9.heap[i]? = w2.heap[i]? := fun i hi hn => (hg9.block i (by have := hbA.size; omega) (fun e => hn i e.symm rfl)).trans (hbA.block i hi)
  have hz9 : w2.heap.size + 1 ≤ w9.heap.size := by have := hg9.size; simpa using this
  have ekb9 := h9i kb (by omega) (fun b hb => (hvb b hb).2.2.symm)
  have egc9 := h9i gc (by omega) (fun b hb => (hvb b hb).2.1.symm)
  have ebx9 := h9i w.heap.size (by omega) (fun b hb => by have := (hvb b hb).1; omega)
  obtain ⟨v0, st, o1, hme0, hen⟩ := Gm.entry (hx2.km.same ekb9) tile_law Tryz.underlying34 zero_int (by simp [maxLen]; omega) tkey_inj HLk.out
  obtain ⟨w10, hw10⟩ : ∃ w10 : World, ChangeMaps.setBlock w9 kb o1 = w10 := ⟨_, rfl⟩
  have hk10 : w10.heap[kb]? = some o1 := by rw [← hw10]; exact sb_same w9 kb o1 (by omega)
  have hz10 : w10.heap.size = w9.heap.size := by rw [← hw10]; simp [ChangeMaps.setBlock]
  obtain ⟨o2, hes0, hgm⟩ := hen w10 (.int .i64 (s.T.length : Nat)) hk10
  obtain ⟨w11, hw11⟩ : ∃ w11 : World, ChangeMaps.setBlock w10 kb o2 = w11 := ⟨_, rfl⟩
  have hz11 : w11.heap.size = w9.heap.size := by rw [← hw11]; simp [ChangeMaps.setBlock, hz10]
  have hk11 : w11.heap[kb]? = some o2 := by rw [← hw11]; exact sb_same w10 kb o2 (by omega)
  have e10 : ∀ i, i ≠ kb → w10.heap[i]? = w9.heap[i]? := fun i hi => by rw [← hw10]; exact sb_other w9 kb o1 i hi
  have e11 : ∀ i, i ≠ kb → w11.heap[i]? = w9.heap[i]? := fun i hi => by rw [← hw11]; exact (sb_other w10 kb o2 i hi).trans (e10 i hi)
  have hme : (Instr.mapEntry 34 (.map (some kb)) (.agg #[.int .i64 t1, .int .i64 t2])).run Tryz.prog w9 = .ok (.tuple #[v0, .int .i64 (st : Nat)]) w10 := by rw [← hw10]; exact hme0
  have hes : (Instr.entryStore 34 (.map (some kb)) (.int .i64 (st : Nat)) (.int .i64 (s.T.length : Nat))).run Tryz.prog w10 = .ok () w11 := by rw [← hw11]; exact hes0
  have mkS : ∀ W : World, W.heap[gc]? = w2.heap[gc]? → W.heap[w.heap.size]? = w2.heap[w.heap.size]? → (fun w'' : World => w''.cell? ⟨gc, 2, none⟩ = some (.map (some kb)) ∧ w''.cell? ⟨w.heap.size, 0, none⟩ = some (.int .i64 t1) ∧ w''.cell? ⟨w.heap.size, 1, none⟩ = some (.int .i64 t2)) W := fun W x1 x2 => ⟨(World.cell?_of_block x1).trans c2', (World.cell?_of_block x2).trans d0', (World.cell?_of_block x2).trans d1'⟩
  have h0S : (fun w'' : World => w''.cell? ⟨gc, 2, none⟩ = some (.map (some kb)) ∧ w''.cell? ⟨w.heap.size, 0, none⟩ = some (.int .i64 t1) ∧ w''.cell? ⟨w.heap.size, 1, none⟩ = some (.int .i64 t2)) w2.drew := mkS _ rfl rfl
  have hAS : (fun w'' : World => w''.cell? ⟨gc, 2, none⟩ = some (.map (some kb)) ∧ w''.cell? ⟨w.heap.size, 0, none⟩ = some (.int .i64 t1) ∧ w''.cell? ⟨w.heap.size, 1, none⟩ = some (.int .i64 t2)) (w2.drew.alloc (.cells #[.int .i64 t1, .int .i64 t2] 48)) := mkS _ (hbA.block gc (by omega)) (hbA.block _ (by omega))
  have h9S : (fun w'' : World => w''.cell? ⟨gc, 2, none⟩ = some (.map (some kb)) ∧ w''.cell? ⟨w.heap.size, 0, none⟩ = some (.int .i64 t1) ∧ w''.cell? ⟨w.heap.size, 1, none⟩ = some (.int .i64 t2)) w9 := mkS _ egc9 ebx9
  have h10S : (fun w'' : World => w''.cell? ⟨gc, 2, none⟩ = some (.map (some kb)) ∧ w''.cell? ⟨w.heap.size, 0, none⟩ = some (.int .i64 t1) ∧ w''.cell? ⟨w.heap.size, 1, none⟩ = some (.int .i64 t2)) w10 := mkS _ ((e10 gc hne).trans egc9) ((e10 _ (by omega)).trans ebx9)
  have h11S : (fun w'' : World => w''.cell? ⟨gc, 2, none⟩ = some (.map (some kb)) ∧ w''.cell? ⟨w.heap.size, 0, none⟩ = some (.int .i64 t1) ∧ w''.cell? ⟨w.heap.size, 1, none⟩ = some (.int .i64 t2)) w11 := mkS _ ((e11 gc hne).trans egc9) ((e11 _ (by omega)).trans ebx9)
  have cb11 : Bk w11 gc 41 (caA K s kb ab ga (.slice Av s.T.length cv) vs) := by have := hx2.cb; rw [HGC.out] at this; exact ((e11 gc hne).trans egc9).trans this
  have e113 := cb11.cell11'.2.2.2.1
  have f113 := cb11.frozen 3
  have eA3 : (w2.drew.alloc (.cells #[.int .i64 t1, .int .i64 t2] 48)).cell? ⟨gc, 3, none⟩ = some (.slice Av s.T.length cv) := (World.cell?_of_block (hbA.block gc (by omega))).trans c3'
  have eB3 : (w2.alloc (.cells #[.int .i64 t1, .int .i64 t2] 48)).cell? ⟨gc, 3, none⟩ = some (.slice Av s.T.length cv) := eA3
  have hzS : (fun w'' : World => w''.cell? ⟨gc, 2, none⟩ = some (.map (some kb)) ∧ w''.cell? ⟨w.heap.size, 0, none⟩ = some (.int .i64 t1) ∧ w''.cell? ⟨w.heap.size, 1, none⟩ = some (.int .i64 t2)) (w11.setCell ⟨gc, 3, none⟩ (.slice A9 (s.T.length + 1) c9)) :=
    ⟨(World.cell?_setCell_other w11 ⟨gc, 3, none⟩ ⟨gc, 2, none⟩ _ (fun e => by injection e with _ e; cases e)).trans h11S.1, (World.cell?_setCell_other w11 ⟨gc, 3, none⟩ ⟨w.heap.size, 0, none⟩ _ (fun e => by injection e with e; omega)).trans h11S.2.1, (World.cell?_setCell_other w11 ⟨gc, 3, none⟩ ⟨w.heap.size, 1, none⟩ _ (fun e => by injection e with e; omega)).trans h11S.2.2⟩
  have hv9 : ∀ b, (Value.slice A9 (s.T.length + 1) c9).ownBlock = some b → b ≠ kb ∧ b ≠ gc := fun b hb => by
    rcases hvo with h3 | h3
    · rw [h3] at hb; exact ⟨(hvb b hb).2.2, (hvb b hb).2.1⟩
    · rw [h3] at hb; injection hb with hb
      simp at hb
      omega
  have hfin : ∃ r' vt', CaP K (U + 1) { s with T := s.T ++ [(t1, t2)] } r' (w11.setCell ⟨gc, 3, none⟩ (.slice A9 (s.T.length + 1) c9)) kb ab ga vt' vs (nk + 1) na AM ∧ Step r w r' (w11.setCell ⟨gc, 3, none⟩ (.slice A9 (s.T.length + 1) c9)) := by
    have hcbs := cb11.set 3 (.slice A9 (s.T.length + 1) c9)
    simp only [List.setIfInBounds_toArray, List.set_cons_zero, List.set_cons_succ] at hcbs
    have hgw : Chg r (fun q => q = 1 ∨ q = 3 ∨ q = 5) w (w11.setCell ⟨gc, 3, none⟩ (.slice A9 (s.T.length + 1) c9)) := by
      refine ⟨?_, fun i hi hn => ?_⟩
      · have b1 : Below 0 w w2 := hb2.mono (Nat.zero_le _)
        have b2 : Below 0 w2 (w2.drew.alloc (.cells #[.int .i64 t1, .int .i64 t2] 48)) := hbA.mono (Nat.zero_le _)
        have b3 : Below 0 (w2.drew.alloc (.cells #[.int .i64 t1, .int .i64 t2] 48)) w9 := ⟨hg9.os, hg9.tape, hg9.output, hg9.size, fun i hi => by omega⟩
        have b4 : Below 0 w9 w10 := by rw [← hw10]; exact sb_below _ _ _
        have b5 : Below 0 w10 w11 := by rw [← hw11]; exact sb_below _ _ _
        exact ((((b1.trans b2).trans b3).trans b4).trans b5).setCell (Nat.zero_le _) _
      · have i1 : i ≠ gc := fun e => hn (.inl (by rw [e, ← HGC.out]; exact H.out.rc))
        have i2 : i ≠ kb := fun e => hn (.inr (.inl (by rw [e]; exact H.out.rk)))
        have i3 : ∀ b, (Value.slice Av s.T.length cv).ownBlock = some b → i ≠ b := fun b hb e => hn (.inr (.inr (by rw [e]; exact H.out.rt b hb)))
        exact (Below.heap_setCell w11 ⟨gc, 3, none⟩ _ i i1).trans ((e11 i i2).trans ((h9i i (by omega) i3).trans (hb2.block i hi)))
    have hkf : (w11.setCell ⟨gc, 3, none⟩ (.slice A9 (s.T.length + 1) c9)).heap[kb]? = some o2 := (Below.heap_setCell w11 ⟨gc, 3, none⟩ _ kb hne.symm).trans hk11
    have htr := own_same hown9 (w' := w11.setCell ⟨gc, 3, none⟩ (.slice A9 (s.T.length + 1) c9)) (fun b hb => (Below.heap_setCell w11 ⟨gc, 3, none⟩ _ b (hv9 b hb).2).trans (e11 b (hv9 b hb).1))
    obtain ⟨r', q1, q2⟩ := H.out.key_new HV.out HT.out hgw (vt' := .slice A9 (s.T.length + 1) c9) (by rw [HGC.out]; exact hcbs) (hgm _ hkf) htr (by
      rcases hvo with h3 | h3
      · exact .inl h3
      · exact .inr ⟨_, h3, by simp; omega⟩) HLO.out
    exact ⟨r', _, q1, q2⟩
  clear hgm hen hme0 hes0 cb11 hown9 hg9 hbA h9i mkS hx2 e10 e11 hk10 hk11 hw10 hw11 ekb9 egc9 ebx9 hvo hv9 H HT HV HLk HLO HGC
  refine wp_region_held_drew (S := (fun w'' : World => w''.cell? ⟨gc, 2, none⟩ = some (.map (some kb)) ∧ w''.cell? ⟨w.heap.size, 0, none⟩ = some (.int .i64 t1) ∧ w''.cell? ⟨w.heap.size, 1, none⟩ = some (.int .i64 t2))) (by kernel_rfl) h0S (fun hHeld => ?_)
  refine wpAnyH_take (i := 0) (v := ?_) rfl (by kernel_rfl) (by kernel_rfl) (by kernel_rfl) (fun _ _ _ h => h) (Or.inl ⟨by rfl, ?_⟩) (by assumption) ?_
  rotate_left
  · (intro w hSw; (try dsimp only at hSw); go_simp; try with_reducible rfl)
  refine wpAnyH_take (i := 1) (v := ?_) rfl (by kernel_rfl) (by kernel_rfl) (by kernel_rfl) (fun _ _ _ h => h) (Or.inl ⟨by rfl, ?_⟩) (by assumption) ?_
  rotate_left
  · (intro w hSw; (try dsimp only at hSw); go_simp; try with_reducible rfl)
  refine wpAnyH_take (i := 2) (v := ?_) rfl (by kernel_rfl) (by kernel_rfl) (by kernel_rfl) (fun _ _ _ h => h) (Or.inl ⟨by rfl, ?_⟩) (by assumption) ?_
  rotate_left
  · (intro w hSw; (try dsimp only at hSw); go_simp; try with_reducible rfl)
  refine wpAnyH_take (i := 3) (v := ?_) rfl (by kernel_rfl) (by kernel_rfl) (by kernel_rfl) (fun _ _ _ h => h) (Or.inl ⟨by rfl, ?_⟩) (by assumption) ?_
  rotate_left
  · (intro w hSw; (try dsimp only at hSw); go_simp; try with_reducible rfl)
  refine wpAnyH_take (i := 4) (v := ?_) rfl (by kernel_rfl) (by kernel_rfl) (by kernel_rfl) (fun _ _ _ h => h) (Or.inl ⟨by rfl, ?_⟩) (by assumption) ?_
  rotate_left
  · (intro w hSw; (try dsimp only at hSw); go_simp; try with_reducible rfl)
  refine wpAnyH_take (i := 6) (v := ?_) rfl (by kernel_rfl) (by kernel_rfl) (by kernel_rfl) (fun _ _ _ h => h) (Or.inl ⟨by rfl, ?_⟩) (by assumption) ?_
  rotate_left
  · (intro w hSw; (try dsimp only at hSw); go_simp; try with_reducible rfl)
  refine wpAnyH_take (i := 7) (v := ?_) rfl (by kernel_rfl) (by kernel_rfl) (by kernel_rfl) (fun _ _ _ h => h) (Or.inl ⟨by rfl, ?_⟩) (by assumption) ?_
  rotate_left
  · (intro w hSw; (try dsimp only at hSw); go_simp; try with_reducible rfl)
  refine wpAnyH_take (i := 8) (v := ?_) rfl (by kernel_rfl) (by kernel_rfl) (by kernel_rfl) (fun _ _ _ h => h) (Or.inl ⟨by rfl, ?_⟩) (by assumption) ?_
  rotate_left
  · (intro w hSw; (try dsimp only at hSw); go_simp; try with_reducible rfl)
  refine wpAnyH_take (i := 9) (v := ?_) rfl (by kernel_rfl) (by kernel_rfl) (by kernel_rfl) (fun _ _ _ h => h) (Or.inl ⟨by rfl, ?_⟩) (by assumption) ?_
  rotate_left
  · (intro w hSw; (try dsimp only at hSw); go_simp; try with_reducible rfl)
  refine wpAnyH_take (i := 11) (v := ?_) rfl (by kernel_rfl) (by kernel_rfl) (by kernel_rfl) (fun _ _ _ h => h) (Or.inl ⟨by rfl, ?_⟩) (by assumption) ?_
  rotate_left
  · (intro w hSw; (try dsimp only at hSw); go_simp; try with_reducible rfl)
  refine wpAnyH_take (i := 5) (v := ?_) rfl (by kernel_rfl) (by kernel_rfl) (by kernel_rfl) (fun _ _ _ h => h) (Or.inl ⟨by rfl, ?_⟩) (by assumption) ?_
  rotate_left
  · (intro w hSw; (try dsimp only at hSw); go_simp; try with_reducible rfl)
  refine wpAnyH_ready (rs := [10, 12]) (by kernel_rfl) (by simp) ?_
  refine AllReadyH.cons rfl (fun K hK => ?_) (AllReadyH.cons rfl (fun K hK => ?_) AllReadyH.nil)
  · go_simp
    refine hK.out _ _ hHeld (fun hHeld => ?_)
    clear hK K
    refine wpAnyH_ready (rs := [12]) (by kernel_rfl) (by simp) ?_
    refine AllReadyH.cons rfl (fun K hK => ?_) AllReadyH.nil
    go_simp
    refine hK.out _ _ hAS (fun hHeld => ?_)
    clear hK K
    refine wpAnyH_ready (rs := [13]) (by kernel_rfl) (by simp) ?_
    refine AllReadyH.cons rfl (fun K hK => ?_) AllReadyH.nil
    rw [if_pos (by kernel_rfl)]
    refine ca_append_run (v := .slice Av s.T.length cv) _ _ _ rfl rfl rfl hap ?_
    go_simp
    refine hK.out _ _ h9S (fun hHeld => ?_)
    clear hK K
    refine wpAnyH_ready (rs := [14]) (by kernel_rfl) (by simp) ?_
    refine AllReadyH.cons rfl (fun K hK => ?_) AllReadyH.nil
    go_simp
    refine hK.out _ _ h10S (fun hHeld => ?_)
    clear hK K
    refine wpAnyH_take (i := 15) (v := ?_) rfl (by kernel_rfl) (by kernel_rfl) (by kernel_rfl) (fun _ _ _ h => h) (Or.inl ⟨by rfl, ?_⟩) (by assumption) ?_
    rotate_left
    · (intro w hSw; (try dsimp only at hSw); go_simp; try with_reducible rfl)
    refine wpAnyH_ready (rs := [16]) (by kernel_rfl) (by simp) ?_
    refine AllReadyH.cons rfl (fun K hK => ?_) AllReadyH.nil
    go_simp
    refine hK.out _ _ h11S (fun hHeld => ?_)
    clear hK K
    refine wpAnyH_take (i := 17) (v := ?_) rfl (by kernel_rfl) (by kernel_rfl) (by kernel_rfl) (fun _ _ _ h => h) (Or.inl ⟨by rfl, ?_⟩) (by assumption) ?_
    rotate_left
    · (intro w hSw; (try dsimp only at hSw); go_simp; try with_reducible rfl)
    refine wpAnyH_take (i := 18) (v := ?_) rfl (by kernel_rfl) (by kernel_rfl) (by kernel_rfl) (fun _ _ _ h => h) (Or.inl ⟨by rfl, ?_⟩) (by assumption) ?_
    rotate_left
    · (intro w hSw; (try dsimp only at hSw); go_simp; try with_reducible rfl)
    refine wpAnyH_ready (rs := [19]) (by kernel_rfl) (by simp) ?_
    refine AllReadyH.cons rfl (fun K hK => ?_) AllReadyH.nil
    go_simp
    refine hK.out _ _ hzS (fun hHeld => ?_)
    clear hK K
    refine wpAnyH_done (by kernel_rfl) ?_ _
    go_wp2_with fail
    go_returns
    obtain ⟨r9, vt9, q1, q2⟩ := hfin
    exact ⟨rfl, r9, ⟨vt9, q1⟩, q2⟩
  · go_simp
    refine hK.out _ _ hAS (fun hHeld => ?_)
    clear hK K
    refine wpAnyH_ready (rs := [10]) (by kernel_rfl) (by simp) ?_
    refine AllReadyH.cons rfl (fun K hK => ?_) AllReadyH.nil
    go_simp
    refine hK.out _ _ hAS (fun hHeld => ?_)
    clear hK K
    refine wpAnyH_ready (rs := [13]) (by kernel_rfl) (by simp) ?_
    refine AllReadyH.cons rfl (fun K hK => ?_) AllReadyH.nil
    rw [if_pos (by kernel_rfl)]
    refine ca_append_run (v := .slice Av s.T.length cv) _ _ _ rfl rfl rfl hap ?_
    go_simp
    refine hK.out _ _ h9S (fun hHeld => ?_)
    clear hK K
    refine wpAnyH_ready (rs := [14]) (by kernel_rfl) (by simp) ?_
    refine AllReadyH.cons rfl (fun K hK => ?_) AllReadyH.nil
    go_simp
    refine hK.out _ _ h10S (fun hHeld => ?_)
    clear hK K
    refine wpAnyH_take (i := 15) (v := ?_) rfl (by kernel_rfl) (by kernel_rfl) (by kernel_rfl) (fun _ _ _ h => h) (Or.inl ⟨by rfl, ?_⟩) (by assumption) ?_
    rotate_left
    · (intro w hSw; (try dsimp only at hSw); go_simp; try with_reducible rfl)
    refine wpAnyH_ready (rs := [16]) (by kernel_rfl) (by simp) ?_
    refine AllReadyH.cons rfl (fun K hK => ?_) AllReadyH.nil
    go_simp
    refine hK.out _ _ h11S (fun hHeld => ?_)
    clear hK K
    refine wpAnyH_take (i := 17) (v := ?_) rfl (by kernel_rfl) (by kernel_rfl) (by kernel_rfl) (fun _ _ _ h => h) (Or.inl ⟨by rfl, ?_⟩) (by assumption) ?_
    rotate_left
    · (intro w hSw; (try dsimp only at hSw); go_simp; try with_reducible rfl)
    refine wpAnyH_take (i := 18) (v := ?_) rfl (by kernel_rfl) (by kernel_rfl) (by kernel_rfl) (fun _ _ _ h => h) (Or.inl ⟨by rfl, ?_⟩) (by assumption) ?_
    rotate_left
    · (intro w hSw; (try dsimp only at hSw); go_simp; try with_reducible rfl)
    refine wpAnyH_ready (rs := [19]) (by kernel_rfl) (by simp) ?_
    refine AllReadyH.cons rfl (fun K hK => ?_) AllReadyH.nil
    go_simp
    refine hK.out _ _ hzS (fun hHeld => ?_)
    clear hK K
    refine wpAnyH_done (by kernel_rfl) ?_ _
    go_wp2_with fail
    go_returns
    obtain ⟨r9, vt9, q1, q2⟩ := hfin
    exact ⟨rfl, r9, ⟨vt9, q1⟩, q2⟩
theorem ckey (h : CaP K U s r w kb ab ga vt vs nk na AM) (hU : U ≤ 90000) (t : Int × Int) (h1 : R64 t.1) (h2 : R64 t.2) (hv : VT K.ims K.tw K.th t) (hlo : K.lo ≤ w.heap.size) :
    Calls Tryz.prog 51 #[.pointer (some ⟨K.gc, 0, none⟩), .agg (tiA t.1 t.2)] w fun e w' => e = .returned (.int .i64 ((addT s.T t).idxOf t : Nat)) ∧ ∃ r' vt' nk', CaP K (U + 1) { s with T := addT s.T t } r' w' kb ab ga vt' vs nk' na AM ∧ Step r w r' w' := by
  by_cases ht : t ∈ s.T
  · have e1 : addT s.T t = s.T := if_pos ht
    rw [e1]
    exact (ckey_old h t h1 h2 ht).mono fun e w' ⟨q1, q2⟩ => ⟨q1, r, vt, nk, (h.nx q2).more (by omega), Step.of_below q2⟩
  · have e1 : addT s.T t = s.T ++ [t] := if_neg ht
    rw [e1]
    refine (ckey_new h hU t h1 h2 hv ht hlo).mono fun e w' ⟨q1, r', vt', q2, q3⟩ => ⟨?_, r', vt', nk + 1, q2, q3⟩
    rw [q1, List.idxOf_append, if_neg ht]
    simp
end
end Go.Proofs.YtahiaeaobbofbaaGreat
end
section
set_option linter.unusedVariables false
namespace Go.Proofs.YtahiaeaobbofbaaGreat
open Go.RowKit
noncomputable def lenAt (ga : Nat) (w : World) : Nat := match w.cell? ⟨ga, 0, none⟩ with | some (.slice _ n _) => n | _ => 0
theorem Ag.lenAt {F : Nat → Prop} {w : World} {g : Nat} {now : Int} {m : List Int} (h : Ag F w g now m) : lenAt g w = m.length := by
  obtain ⟨A, n, c, cnt, mv, a, K, W, s, M, Fh, hH, hp, hS, rfl, _, hM, _⟩ := h.ex
  have e : (s.map K).length = n := by rw [List.length_map]; exact hS.len
  have hc := hH.hg.cell3.1
  unfold Go.Proofs.YtahiaeaobbofbaaGreat.lenAt
  rw [hc, e]
section
variable {r r' r'' : Nat → Nat} {w w' w'' : World} {K : SC} {U : Nat} {s : CS} {kb ab ga nk na : Nat} {vt vs : Value} {AM : Int → Option Value}
/-- What is at hand when there is room for one more, and how many were dropped. -/
def roomS (K : SC) (s : CS) : CS := if (s.ks.length : Int) < K.most then s else { s with ks := s.ks.tail, drops := s.drops + 1 }
theorem tail_filter {a : Nat} {l : List Nat} (h : (a :: l).Nodup) : ((a :: l).map natI).filter (· ≠ ((a :: l).map natI).headD 0) = l.map natI := by
  have h1 := (List.nodup_cons.1 h).1
  simp only [List.map_cons, List.headD_cons]
  rw [List.filter_cons]
  simp
  intro x hx e
  have : x = a := by unfold natI at e; omega
  exact h1 (this ▸ hx)
theorem CaP.pop (h : CaP K U s r w kb ab ga vt vs nk na AM) {a : Nat} {l : List Nat} (hk : s.ks = a :: l) (g : Chg r (fun q => q = 1 ∨ q = 4 ∨ q = 7) w w')
    (cb' : Bk w' K.gc 41 (caA K { s with drops := s.drops + 1 } kb ab ga vt vs)) (am' : Gm Tryz.prog 3 ikey w' ab na (fun z => if z = natI a then none else AM z)) (ag' : Ag (fun b => r b = 7) w' ga s.now (l.map natI)) :
    CaP K (U + 1) { s with ks := l, drops := s.drops + 1 } r w' kb ab ga vt vs nk na (fun z => if z = natI a then none else AM z) ∧ Step r w r w' := by
  obtain ⟨b1, b2, b3, b4⟩ := h.bk
  obtain ⟨c1, c2, c3, c4, c5⟩ := h.bc
  have hnd := h.kd
  rw [hk] at hnd
  have ha := (List.nodup_cons.1 hnd).1
  have hbl := h.bl
  rw [hk] at hbl
  refine ⟨?_, ⟨⟨g.bel, fun i hi hF => g.out i hi (fun e => hF (by rcases e with e | e | e <;> (rw [e]; decide)))⟩, fun _ _ => rfl⟩⟩
  exact { h with
    cb := cb', so := g.bk h.so (by rw [h.rs]; decide), im := h.im.chg g (by decide), km := g.gm h.km (by rw [h.rk]; decide), am := am', tr := g.own h.tr (fun b hb => by rw [h.rt b hb]; decide),
    sr := g.own h.sr (fun b hb => by rw [h.rv b hb]; decide), ag := ag',
    lt := fun b hr => Nat.lt_of_lt_of_le (h.lt b hr) g.size,
    hit := fun k hkl => by
      obtain ⟨h1, v, h2, h3⟩ := h.hit k (by rw [hk]; exact List.mem_cons_of_mem _ hkl)
      refine ⟨h1, v, ?_, h3.chg g (by decide)⟩
      rw [if_neg (fun e => ha (by have : k = a := by unfold natI at e; omega
                                  exact this ▸ hkl))]
      exact h2,
    mis := fun z hz => by
      by_cases e : z = natI a
      · exact if_pos e
      · rw [if_neg e]
        exact h.mis z (fun k hkk => by
          rw [hk] at hkk
          rcases List.mem_cons.1 hkk with h1 | h1
          · subst h1; exact fun e2 => e e2.symm
          · exact hz k h1),
    bk := ⟨by omega, by omega, by simp; omega, by simp; omega⟩,
    bc := ⟨by simp; omega, by simp; omega, by simp; omega, by simp; omega, by simp; omega⟩,
    bl := by simp at hbl ⊢; omega, kd := (List.nodup_cons.1 hnd).2 }
theorem CaP.key64 (h : CaP K U s r w kb ab ga vt vs nk na AM) (hU : U ≤ 90000) : ∀ k, k ∈ s.ks.map natI → -9223372036854775808 ≤ k ∧ k ≤ 9223372036854775807 := fun k hk => by
  obtain ⟨j, hj, rfl⟩ := List.mem_map.1 hk
  obtain ⟨h1, _⟩ := h.hit j hj
  have := h.bk.2.2.1
  unfold natI
  omega
set_option maxRecDepth 100000 in
set_option maxHeartbeats 16000000 in
theorem croom (h : CaP K U s r w kb ab ga vt vs nk na AM) (hU : U ≤ 90000) :
    Calls Tryz.prog 52 #[.pointer (some ⟨K.gc, 0, none⟩)] w fun e w' => e = .returned (.tuple #[]) ∧ ∃ AM', CaP K (U + 1) (roomS K s) r w' kb ab ga vt vs nk na AM' ∧ Step r w r w' ∧ ((roomS K s).ks.length : Int) < K.most := by
  have hmost := h.bm
  have hbl := h.bl
  go_enter Tryz.func52, Tryz.ntmps52
  go_wp2_with fail
  go_loopw [] (fun wr => (wr = w ∧ True) ∨ (¬ ((s.ks.length : Int) < K.most) ∧ ∃ AM', CaP K (U + 1) (roomS K s) r wr kb ab ga vt vs nk na AM' ∧ Step r w r wr)) (fun wr => lenAt ga wr)
  case atStart => exact .inl ⟨rfl, trivial⟩
  case round =>
    have hex : ∀ (V : Nat) (s1 : CS) (AM1 : Int → Option Value) (L : Nat), CaP K V s1 r wr kb ab ga vt vs nk na AM1 → s1.ks.length = L → V ≤ U + 1 → s1 = roomS K s → (L : Int) < K.most → Step r w r wr → True := fun _ _ _ _ _ _ _ _ _ _ => trivial
    clear hex
    by_cases hfull : (wr = w ∧ (s.ks.length : Int) < K.most) ∨ (¬ ((s.ks.length : Int) < K.most) ∧ ∃ AM', CaP K (U + 1) (roomS K s) r wr kb ab ga vt vs nk na AM' ∧ Step r w r wr)
    · have h9 : ∃ AM', CaP K (U + 1) (roomS K s) r wr kb ab ga vt vs nk na AM' ∧ Step r w r wr ∧ ((roomS K s).ks.length : Int) < K.most := by
        rcases hfull with ⟨rfl, h1⟩ | ⟨h1, AM', h2, h3⟩
        · have e : roomS K s = s := if_pos h1
          rw [e]
          exact ⟨AM, h.more (by omega), Step.refl r wr, h1⟩
        · have e : roomS K s = { s with ks := s.ks.tail, drops := s.drops + 1 } := if_neg h1
          refine ⟨AM', h2, h3, ?_⟩
          rw [e]
          simp
          omega
      obtain ⟨AM', hx, hst, hlt⟩ := h9
      clear hrel hfull
      obtain ⟨L, hL⟩ : ∃ L, (roomS K s).ks.length = L := ⟨_, rfl⟩
      have hlt2 : (L : Int) < K.most := by omega
      have hlen : ∀ (d : Nat) (os : Array Obj), Calls Tryz.prog 33 #[.pointer (some ⟨ga, 0, none⟩)] (Go.Sort.grow (redrawn wr d) os) fun e w' => e = .returned (.int .i64 (L : Nat)) ∧ Go.Sort.grow (redrawn wr d) os = w' := fun d os => by
        have := (hx.nx (below_regrown wr d os)).ag.len
        rw [List.length_map, hL] at this
        exact this
      have hcb := hx.cb
      obtain ⟨c0, c1, c2, c3, c4, c5, c6, c7, c8, c9, c10⟩ := hcb.cell11'
      have r1 := fun (n : Nat) (os : Array Obj) => cell_regrown c1 n os
      have r5 := fun (n : Nat) (os : Array Obj) => cell_regrown c5 n os
      clear c0 c1 c2 c3 c4 c5 c6 c7 c8 c9 c10 hcb
      go_upto_region 0 with fail
      refine wp_region_quiet_below (by kernel_rfl) (by kernel_rfl) ?_
      repeat (first
        | go_big_quiet_step (with_reducible exact quiet_eq (hlen _ _))
        | quiet_step (with_reducible exact quiet_eq (hlen _ _)))
      refine wpQuiet_nil ?_
      intro _ hw'
      obtain ⟨⟨d9, os⟩, hw''⟩ := hw'
      subst hw''
      have hbx := below_regrown wr d9 os
      have hxx := hx.nx hbx
      clear r1 r5 hlen
      generalize Go.Sort.grow (redrawn wr d9) os = wx at *
      have hstx : Step r w r wx := hst.trans (Step.of_below hbx)
      clear hL
      go_wp2_with fail
      go_returns
      exact ⟨rfl, AM', hxx, hstx, hlt⟩
    · have h10 : wr = w ∧ ¬ ((s.ks.length : Int) < K.most) := by
        rcases hrel with ⟨h1, _⟩ | h1
        · exact ⟨h1, fun e => hfull (.inl ⟨h1, e⟩)⟩
        · exact absurd (.inr h1) hfull
      obtain ⟨rfl, hge⟩ := h10
      clear hrel hfull
      have hx := h
      obtain ⟨a, l, hk⟩ : ∃ a l, s.ks = a :: l := by
        cases e : s.ks with
        | nil => rw [e] at hge; simp at hge; omega
        | cons a l => exact ⟨a, l, rfl⟩
      obtain ⟨L, hL⟩ : ∃ L, s.ks.length = L := ⟨_, rfl⟩
      have hlt2 : K.most ≤ (L : Int) := by omega
      have hnd := hx.kd
      rw [hk] at hnd
      have hlen : ∀ (d : Nat) (os : Array Obj), Calls Tryz.prog 33 #[.pointer (some ⟨ga, 0, none⟩)] (Go.Sort.grow (redrawn wr d) os) fun e w' => e = .returned (.int .i64 (L : Nat)) ∧ Go.Sort.grow (redrawn wr d) os = w' := fun d os => by
        have := (hx.nx (below_regrown wr d os)).ag.len
        rw [List.length_map, hL] at this
        exact this
      have hcb := hx.cb
      obtain ⟨c0, c1, c2, c3, c4, c5, c6, c7, c8, c9, c10⟩ := hcb.cell11'
      have r1 := fun (n : Nat) (os : Array Obj) => cell_regrown c1 n os
      have r5 := fun (n : Nat) (os : Array Obj) => cell_regrown c5 n os
      clear c0 c1 c2 c3 c4 c5 c6 c7 c8 c9 c10 hcb
      go_upto_region 0 with fail
      refine wp_region_quiet_below (by kernel_rfl) (by kernel_rfl) ?_
      repeat (first
        | go_big_quiet_step (with_reducible exact quiet_eq (hlen _ _))
        | quiet_step (with_reducible exact quiet_eq (hlen _ _)))
      refine wpQuiet_nil ?_
      intro _ hw'
      obtain ⟨⟨d9, os⟩, hw''⟩ := hw'
      subst hw''
      have hbx := below_regrown wr d9 os
      have hxx := hx.nx hbx
      clear r1 r5 hlen
      generalize Go.Sort.grow (redrawn wr d9) os = wx at *
      have hpop := hxx.ag.pop (hxx.key64 hU) (by have := hxx.bc.1; omega)
      rw [hk, tail_filter hnd] at hpop
      rw [show ((a :: l).map natI).headD 0 = natI a from rfl, show decide ((a :: l).map natI ≠ []) = true from decide_eq_true (by simp)] at hpop
      have ha64 : R64 (natI a) := hxx.key64 hU _ (by rw [hk]; simp)
      obtain ⟨c0, c1, c2, c3, c4, c5, c6, c7, c8, c9, c10⟩ := hxx.cb.cell11'
      have HL := Lib.hid hL
      have HKS := Lib.hid hk
      have HND := Lib.hid hnd
      clear hL hk hnd c0 c1 c2 c3 c4 c6 c7 c8 c9 c10
      have hd64 : wrap64 (s.drops + 1) = s.drops + 1 := by have := hxx.bc.2.2.2.1; exact IntWalk.wrap64_in _ ⟨by omega, by omega⟩
      have hik := int_key (natI a) ha64
      obtain ⟨ai, hai⟩ : ∃ ai, natI a = ai := ⟨_, rfl⟩
      rw [hai] at hpop hik ha64
      have HAI := Lib.hid hai
      clear hai
      go_upto_region 2 with (go_at_call 72; (with_reducible refine hpop.mono ?_); rintro e w3 ⟨rfl, hag3, hon3⟩)
      have g3 : Chg r (fun q => q = 7) wx w3 := hon3
      have hcb3 := g3.bk hxx.cb (by rw [hxx.rc]; decide)
      have ham3 := g3.gm hxx.am (by rw [hxx.ra]; decide)
      have d4 := hcb3.cell11'.2.2.2.2.1
      go_upto_region 3 with (at_delete; refine wpList_gdel rfl _ _ _ 44 rfl (Maps.int_keyed Tryz.underlying3) Tryz.underlying36 ham3 ikey_inj rfl ai hik rfl ?_; intro w4 ham4 hg4 hz4)
      have hne4 : ∀ i, i ≠ ab → i < w3.heap.size → w4.heap[i]? = w3.heap[i]? := fun i hi hl => hg4.block i hl (fun e => by injection e with e; exact hi e)
      have hgca : K.gc ≠ ab := fun e => by have e1 := hxx.rc; rw [e, hxx.ra] at e1; cases e1
      have hcb4 : Bk w4 K.gc 41 (caA K s kb ab ga vt vs) := (hne4 _ hgca hcb3.lt).trans hcb3
      have d8 := hcb4.cell11'.2.2.2.2.2.2.2.2.1
      have f8 := hcb4.frozen 8
      have hcb5 := hcb4.set 8 (.int .i64 (s.drops + 1))
      simp only [List.setIfInBounds_toArray, List.set_cons_zero, List.set_cons_succ] at hcb5
      have g5 : Chg r (fun q => q = 1 ∨ q = 4 ∨ q = 7) wr (w4.setCell ⟨K.gc, 8, none⟩ (.int .i64 (s.drops + 1))) := by
        refine ⟨?_, fun i hi hn => ?_⟩
        · have b1 : Below 0 wr wx := hbx.mono (Nat.zero_le _)
          have b2 : Below 0 wx w3 := g3.bel
          have b3 : Below 0 w3 w4 := ⟨hg4.os, hg4.tape, hg4.output, hg4.size, fun i hi => by omega⟩
          exact ((b1.trans b2).trans b3).setCell (Nat.zero_le _) _
        · have hix : i < wx.heap.size := Nat.lt_of_lt_of_le hi hbx.size
          have i1 : i ≠ K.gc := fun e => hn (.inl (by rw [e]; exact hxx.rc))
          have i2 : i ≠ ab := fun e => hn (.inr (.inl (by rw [e]; exact hxx.ra)))
          exact (Below.heap_setCell w4 ⟨K.gc, 8, none⟩ _ i i1).trans ((hne4 i i2 (Nat.lt_of_lt_of_le hix g3.size)).trans ((g3.same hix (fun e => hn (.inr (.inr e)))).trans (hbx.block i hi)))
      have hab5 : (w4.setCell ⟨K.gc, 8, none⟩ (.int .i64 (s.drops + 1))).heap[ab]? = w4.heap[ab]? := Below.heap_setCell w4 ⟨K.gc, 8, none⟩ _ ab hgca.symm
      have hag5 : Ag (fun b => r b = 7) (w4.setCell ⟨K.gc, 8, none⟩ (.int .i64 (s.drops + 1))) ga s.now (l.map natI) := ag_keep hag3 (fun i hi => (Below.heap_setCell w4 ⟨K.gc, 8, none⟩ _ i (fun e => by simp at e; rw [e, hxx.rc] at hi; cases hi)).trans (hne4 i (fun e => by rw [e, hxx.ra] at hi; cases hi) (hag3.lt i hi))) (by simp; omega)
      have hfin := h.pop HKS.out g5 hcb5 (by have := ham4.same hab5; rw [← HAI.out] at this; exact this) hag5
      have hl1 := hag5.lenAt
      have hl0 := h.ag.lenAt
      rw [List.length_map] at hl1 hl0
      rw [HKS.out] at hl0
      have hrs : roomS K s = { s with ks := l, drops := s.drops + 1 } := by
        have e : roomS K s = { s with ks := s.ks.tail, drops := s.drops + 1 } := if_neg (by omega)
        rw [e, HKS.out]; rfl
      clear hpop ham3 hcb3 d4 ham4 hcb5 hag3 hxx hx
      go_wp2_with fail
      exact ⟨.inr ⟨by omega, (fun z => if z = natI a then none else AM z), by rw [hrs]; exact hfin.1, hfin.2⟩, by rw [hl1, hl0]; simp⟩
end
end Go.Proofs.YtahiaeaobbofbaaGreat
end
section
set_option linter.unusedVariables false
namespace Go.Proofs.YtahiaeaobbofbaaGreat
open Go.RowKit
abbrev im0A : Array Value := #[.int .i64 0, .int .i64 0, .int .i64 0, .slice none 0 0]
section
variable {r r' r'' : Nat → Nat} {w w' w'' : World} {K : SC} {U : Nat} {s : CS} {kb ab ga nk na : Nat} {vt vs : Value} {AM : Int → Option Value}
theorem CaP.fetched (h : CaP K U s r w kb ab ga vt vs nk na AM) (g : Chg r (fun q => q = 2) w w') (so' : Bk w' K.gs 79 (soA K.A K.n K.c K.tw K.th (s.cnt + 1))) :
    CaP K (U + 1) { s with cnt := s.cnt + 1 } r w' kb ab ga vt vs nk na AM ∧ Step r w r w' := by
  obtain ⟨b1, b2, b3, b4⟩ := h.bk
  obtain ⟨c1, c2, c3, c4, c5⟩ := h.bc
  refine ⟨?_, ⟨⟨g.bel, fun i hi hF => g.out i hi (fun e => hF (by rw [e]; decide))⟩, fun _ _ => rfl⟩⟩
  exact { h with
    cb := g.bk h.cb (by rw [h.rc]; decide), so := so', im := h.im.chg g (by decide), km := g.gm h.km (by rw [h.rk]; decide), am := g.gm h.am (by rw [h.ra]; decide), tr := g.own h.tr (fun b hb => by rw [h.rt b hb]; decide),
    sr := g.own h.sr (fun b hb => by rw [h.rv b hb]; decide), ag := g.ag h.ag (fun b hb => by rw [hb]; decide),
    lt := fun b hr => Nat.lt_of_lt_of_le (h.lt b hr) g.size,
    hit := fun k hk => by obtain ⟨h1, v, h2, h3⟩ := h.hit k hk; exact ⟨h1, v, h2, h3.chg g (by decide)⟩,
    bk := ⟨by omega, by omega, by simp; omega, by simp; omega⟩,
    bc := ⟨by simp; omega, by simp; omega, by simp; omega, by simp; omega, by simp; omega⟩ }
theorem keepF {w1 w' : World} {gs g3 g6 b o : Nat} {t3 t6 ts : TypeId} {A : Option Addr} {n c : Nat} {x0 x1 p q u v i0 i1 i2 i3 s1 s2 s3 : Value} (hs : Bk w1 gs ts #[.slice A n c, s1, s2, s3]) (k3 : Bk w1 g3 t3 #[x0, x1]) (k6 : Bk w1 g6 t6 #[p, q, u, v])
    (hb : b < w1.heap.size) (e0 : w1.cell? ⟨b, o, none⟩ = some i0) (e1 : w1.cell? ⟨b, o + 1, none⟩ = some i1) (e2 : w1.cell? ⟨b, o + 2, none⟩ = some i2) (e3 : w1.cell? ⟨b, o + 3, none⟩ = some i3) (hbl : Below w1.heap.size w1 w') :
    (w'.cell? ⟨gs, 0, none⟩ = some (.slice A n c) ∧ w'.cell? ⟨g3, 0, none⟩ = some x0) ∧ (w'.cell? ⟨g6, 0, none⟩ = some p ∧ w'.cell? ⟨g6, 1, none⟩ = some q ∧ w'.cell? ⟨g6, 2, none⟩ = some u ∧ w'.cell? ⟨g6, 3, none⟩ = some v) ∧
      (w'.cell? ⟨b, o, none⟩ = some i0 ∧ w'.cell? ⟨b, o + 1, none⟩ = some i1 ∧ w'.cell? ⟨b, o + 2, none⟩ = some i2 ∧ w'.cell? ⟨b, o + 3, none⟩ = some i3) :=
  ⟨⟨(hs.nx hbl).cell 0, (k3.nx hbl).cell 0⟩, (k6.nx hbl).cell4, (hbl.cell (p := ⟨b, o, none⟩) hb).trans e0, (hbl.cell (p := ⟨b, o + 1, none⟩) hb).trans e1, (hbl.cell (p := ⟨b, o + 2, none⟩) hb).trans e2, (hbl.cell (p := ⟨b, o + 3, none⟩) hb).trans e3⟩
theorem cell_s4 (w : World) (g b o : Nat) (x y z u : Value) (h : b ≠ g) : ((((w.setCell ⟨g, 0, none⟩ x).setCell ⟨g, 1, none⟩ y).setCell ⟨g, 2, none⟩ z).setCell ⟨g, 3, none⟩ u).cell? ⟨b, o, none⟩ = w.cell? ⟨b, o, none⟩ := by
  have hh : ∀ (W : World) (q : Nat) (v : Value), (W.setCell ⟨g, q, none⟩ v).cell? ⟨b, o, none⟩ = W.cell? ⟨b, o, none⟩ := fun W q v => World.cell?_setCell_other W ⟨g, q, none⟩ ⟨b, o, none⟩ v (fun e => by injection e with e; exact h e.symm)
  rw [hh, hh, hh, hh]
theorem keepFS {w6 : World} {gs g3 g6 b o g : Nat} {v0 v1 v2 v3 v4 v5 v6 v7 v8 v9 x y z u : Value} (h : (w6.cell? ⟨gs, 0, none⟩ = some v0 ∧ w6.cell? ⟨g3, 0, none⟩ = some v1) ∧ (w6.cell? ⟨g6, 0, none⟩ = some v2 ∧ w6.cell? ⟨g6, 1, none⟩ = some v3 ∧ w6.cell? ⟨g6, 2, none⟩ = some v4 ∧ w6.cell? ⟨g6, 3, none⟩ = some v5) ∧
      (w6.cell? ⟨b, o, none⟩ = some v6 ∧ w6.cell? ⟨b, o + 1, none⟩ = some v7 ∧ w6.cell? ⟨b, o + 2, none⟩ = some v8 ∧ w6.cell? ⟨b, o + 3, none⟩ = some v9)) (n1 : gs ≠ g) (n2 : g3 ≠ g) (n3 : g6 ≠ g) (n4 : b ≠ g) :
    (((((w6.setCell ⟨g, 0, none⟩ x).setCell ⟨g, 1, none⟩ y).setCell ⟨g, 2, none⟩ z).setCell ⟨g, 3, none⟩ u).cell? ⟨gs, 0, none⟩ = some v0 ∧ ((((w6.setCell ⟨g, 0, none⟩ x).setCell ⟨g, 1, none⟩ y).setCell ⟨g, 2, none⟩ z).setCell ⟨g, 3, none⟩ u).cell? ⟨g3, 0, none⟩ = some v1) ∧ (((((w6.setCell ⟨g, 0, none⟩ x).setCell ⟨g, 1, none⟩ y).setCell ⟨g, 2, none⟩ z).setCell ⟨g, 3, none⟩ u).cell? ⟨g6, 0, none⟩ = some v2 ∧ ((((w6.setCell ⟨g, 0, none⟩ x).setCell ⟨g, 1, none⟩ y).setCell ⟨g, 2, none⟩ z).setCell ⟨g, 3, none⟩ u).cell? ⟨g6, 1, none⟩ = some v3 ∧ ((((w6.setCell ⟨g, 0, none⟩ x).setCell ⟨g, 1, none⟩ y).setCell ⟨g, 2, none⟩ z).setCell ⟨g, 3, none⟩ u).cell? ⟨g6, 2, none⟩ = some v4 ∧ ((((w6.setCell ⟨g, 0, none⟩ x).setCell ⟨g, 1, none⟩ y).setCell ⟨g, 2, none⟩ z).setCell ⟨g, 3, none⟩ u).cell? ⟨g6, 3, none⟩ = some v5) ∧
      (((((w6.setCell ⟨g, 0, none⟩ x).setCell ⟨g, 1, none⟩ y).setCell ⟨g, 2, none⟩ z).setCell ⟨g, 3, none⟩ u).cell? ⟨b, o, none⟩ = some v6 ∧ ((((w6.setCell ⟨g, 0, none⟩ x).setCell ⟨g, 1, none⟩ y).setCell ⟨g, 2, none⟩ z).setCell ⟨g, 3, none⟩ u).cell? ⟨b, o + 1, none⟩ = some v7 ∧ ((((w6.setCell ⟨g, 0, none⟩ x).setCell ⟨g, 1, none⟩ y).setCell ⟨g, 2, none⟩ z).setCell ⟨g, 3, none⟩ u).cell? ⟨b, o + 2, none⟩ = some v8 ∧ ((((w6.setCell ⟨g, 0, none⟩ x).setCell ⟨g, 1, none⟩ y).setCell ⟨g, 2, none⟩ z).setCell ⟨g, 3, none⟩ u).cell? ⟨b, o + 3, none⟩ = some v9) := by
  simp only [cell_s4 w6 g _ _ x y z u n1, cell_s4 w6 g _ _ x y z u n2, cell_s4 w6 g _ _ x y z u n3, cell_s4 w6 g _ _ x y z u n4]
  exact h
set_option maxRecDepth 100000 in
set_option maxHeartbeats 16000000 in
theorem cfetch (h : CaP K U s r w kb ab ga vt vs nk na AM) (hU : U ≤ 90000) (t : Int × Int) (hv : VT K.ims K.tw K.th t) :
    Calls Tryz.prog 53 #[.pointer (some ⟨K.gs, 0, none⟩), .agg (tiA t.1 t.2)] w fun e w' => ∃ v, e = .returned (.tuple #[v, .int .i64 0]) ∧ CaP K (U + 1) { s with cnt := s.cnt + 1 } r w' kb ab ga vt vs nk na AM ∧ Step r w r w' ∧ HasIm w' r K.ims K.tw K.th t v := by
  obtain ⟨j, hj, ht1, hi0, hi1⟩ := hv
  obtain ⟨t1, i⟩ := t
  simp only at ht1 hi0 hi1 ⊢
  subst ht1
  have hjn : j < K.n := by have := h.len; omega
  have hjs : j ≤ 100000 := by have := h.small; omega
  have hgr := h.sto.gr j hj
  obtain ⟨⟨X0, X1⟩, ⟨Y0, Y1⟩, hxy⟩ := tl_xy hgr ⟨hi0, hi1⟩
  clear hxy
  obtain ⟨hW, hH, hTW, hTH⟩ := grC_zero.1 hgr
  have hck := h.ck K.ims[j] (List.getElem_mem hj)
  have hL := ((Lie.start w).alloc (tiA j i) 48).alloc im0A 44
  simp only [World.size_alloc] at hL
  have hP := splace_in (h.nx hL.bel).sto j hj i ⟨hi0, hi1⟩
  have k0 : Bk _ w.heap.size 48 (tiA j i) := hL.k 1 (by simp)
  have hcnt64 : wrap64 (s.cnt + 1) = s.cnt + 1 := by have := h.bc.2.2.2.2; exact IntWalk.wrap64_in _ ⟨by omega, by omega⟩
  have HPL : Hid (plA K.ims[j] K.tw K.th i = rc_rectA (tlX K.ims[j].W K.tw i) (tlY K.ims[j].W K.tw K.th i) (min (tlX K.ims[j].W K.tw i + K.tw) K.ims[j].W) (min (tlY K.ims[j].W K.tw K.th i + K.th) K.ims[j].H)) := rfl
  obtain ⟨PA, hPA⟩ : ∃ PA, plA K.ims[j] K.tw K.th i = PA := ⟨_, rfl⟩
  rw [hPA] at hP HPL
  obtain ⟨a, ha⟩ : ∃ a, tlX K.ims[j].W K.tw i = a := ⟨_, rfl⟩
  obtain ⟨b, hb⟩ : ∃ b, tlY K.ims[j].W K.tw K.th i = b := ⟨_, rfl⟩
  rw [ha, hb] at HPL
  rw [ha] at X0 X1
  rw [hb] at Y0 Y1
  obtain ⟨c, hc⟩ : ∃ c, min (a + K.tw) K.ims[j].W = c := ⟨_, rfl⟩
  obtain ⟨d, hd⟩ : ∃ d, min (b + K.th) K.ims[j].H = d := ⟨_, rfl⟩
  rw [hc, hd] at HPL
  have hac : a < c := by omega
  have hcW : c ≤ K.ims[j].W := by omega
  have hbd : b < d := by omega
  have hdH : d ≤ K.ims[j].H := by omega
  obtain rfl : PA = rc_rectA a b c d := HPL.out
  have hso := h.so
  have hgsw := hso.lt
  have H := Lib.hid h
  have HQ : Hid (tlX K.ims[j].W K.tw i = a ∧ tlY K.ims[j].W K.tw K.th i = b ∧ min (a + K.tw) K.ims[j].W = c ∧ min (b + K.th) K.ims[j].H = d) := ⟨ha, hb, hc, hd⟩
  have HI : Hid (0 ≤ i ∧ i < grN K.ims[j].W K.tw * grN K.ims[j].H K.th) := ⟨hi0, hi1⟩
  clear h hPA ha hb hc hd hgr hi0 hi1 HPL
  have hs1 : Bk ((w.alloc (.cells (tiA j i) 48)).alloc (.cells im0A 44)) K.gs 79 (soA K.A K.n K.c K.tw K.th s.cnt) := hso.nx hL.bel
  obtain ⟨gs, hgs⟩ : ∃ gs, K.gs = gs := ⟨_, rfl⟩
  rw [hgs] at hP hs1 hgsw hso ⊢
  have HGS := Lib.hid hgs
  clear hgs
  go_enter Tryz.func53, Tryz.ntmps53
  go_upto_region 3 with fail
  go_upto_region 4 with (first
    | (refine ldB rfl _ _ rfl k0 rfl Tryz.underlying48 rfl ti_size ?_)
    | (go_at_call 36; (with_reducible refine hP.mono ?_); rintro e w2 ⟨rfl, hb2⟩; have kN6 := Bk.new w2 59 (rc_rectA 0 0 0 0))
    | (refine stB (ty := 59) (cells := rc_rectA a b c d) rfl _ _ rfl kN6 rfl rfl rc_rect_size rfl (by simp [Value.oneCell']) ?_; intro w3 k63 hg63 hs63))
  have hLN := (hL.nx hb2).alloc (rc_rectA 0 0 0 0) 59
  have hz2 : w.heap.size + 1 < w2.heap.size := by have := hb2.size; simp at this; omega
  have hL3 := hLN.set hg63 k63 (by omega) (by simp; omega)
  have hz3 : w2.heap.size < w3.heap.size := k63.lt
  have hs3 : Bk w3 gs 79 (soA K.A K.n K.c K.tw K.th s.cnt) := hso.below hL3.bel hgsw
  have k33 : Bk w3 w.heap.size 48 (tiA j i) := hL3.k 2 (by simp)
  have k43 : Bk w3 (w.heap.size + 1) 44 im0A := hL3.k 1 (by simp)
  have e33 := hs3.cell4.2.2.2
  have f33 := hs3.frozen 3
  have hbw3 := hL3.bel
  obtain ⟨g6, hg6⟩ : ∃ g6, w2.heap.size = g6 := ⟨_, rfl⟩
  simp only [hg6] at k63 hz2 hz3 ⊢
  clear hg6 hL hLN hL3 hg63 hs63 kN6 hb2 k0 hP hs1
  go_upto_region 7 with fail
  have hs5 := hs3.set 3 (.int .i64 (s.cnt + 1))
  simp only [List.setIfInBounds_toArray, List.set_cons_zero, List.set_cons_succ] at hs5
  have k35 := k33.far (p := ⟨gs, 3, none⟩) (by simp; omega) (.int .i64 (s.cnt + 1))
  have k45 := k43.far (p := ⟨gs, 3, none⟩) (by simp; omega) (.int .i64 (s.cnt + 1))
  have k65 := k63.far (p := ⟨gs, 3, none⟩) (by simp; omega) (.int .i64 (s.cnt + 1))
  have g5 : Chg r (fun q => q = 2) w (w3.setCell ⟨gs, 3, none⟩ (.int .i64 (s.cnt + 1))) :=
    ⟨(hbw3.mono (Nat.zero_le _)).setCell (Nat.zero_le _) _, fun i hi hn => (Below.heap_setCell w3 ⟨gs, 3, none⟩ _ i (fun e => hn (by simp at e; rw [e, ← HGS.out]; exact H.out.rs))).trans (hbw3.block i hi)⟩
  have hz5 : (w3.setCell ⟨gs, 3, none⟩ (.int .i64 (s.cnt + 1))).heap.size = w3.heap.size := by simp
  have hz5a : w3.heap.size ≤ (w3.setCell ⟨gs, 3, none⟩ (.int .i64 (s.cnt + 1))).heap.size := by rw [hz5]; exact Nat.le_refl _
  clear hz5 hs3 k33 k43 k63 e33 f33 hbw3
  generalize w3.setCell ⟨gs, 3, none⟩ (.int .i64 (s.cnt + 1)) = w5 at *
  obtain ⟨B, O, Ai, ci, hA, _, hBl, q0, q1, q2, q3, hci, hri⟩ := (H.out.im.chg g5 (by decide)).at_.get j hj
  rw [hA] at hs5
  obtain ⟨m, hm⟩ : ∃ m, K.ims[j] = m := ⟨_, rfl⟩
  have HM := Lib.hid hm
  have HA := Lib.hid hA
  rw [hm] at hck hcW hdH q0 q1 q2 q3 hci hri
  have hCr : ∀ w', Below w5.heap.size w5 w' → Calls Tryz.prog 73 #[.agg #[.int .i64 m.W, .int .i64 m.H, .int .i64 m.C, .slice Ai m.px.length ci], rc_rect4 a b c d] w' (CropP m a b c d w') := fun w' hb' =>
    icrop_in m Ai ci a b c d w' hck ⟨X0, hac⟩ hcW ⟨Y0, hbd⟩ hdH hci ((hri.rd.below hb').more hb'.size)
  clear hm hA hck hcW hdH hci hri X0 X1 Y0 Y1 hac hbd hW hH hTW hTH hso
  obtain ⟨⟨c00, c01⟩, ⟨c02, c03, c04, c05⟩, c06, c07, c08, c09⟩ := keepF hs5 k35 k65 hBl q0 q1 q2 q3 (Below.refl _ w5)
  have hB0 : Below w5.heap.size w5 w5.drew := (Below.refl _ _).drew
  have hBw : B < w.heap.size := by
    obtain ⟨B', O', _, _, hA', _, hB', _⟩ := H.out.im.at_.get j hj
    rw [HA.out] at hA'
    injection hA' with hA'
    injection hA' with e1 e2
    omega
  have hjn2 : (j : Int) < (K.n : Int) := by omega
  go_region_held3 (fun w' => (w'.cell? ⟨gs, 0, none⟩ = some (.slice (some ⟨B, O, none⟩) K.n K.c) ∧ w'.cell? ⟨w.heap.size, 0, none⟩ = some (.int .i64 j)) ∧ (w'.cell? ⟨g6, 0, none⟩ = some (.int .i64 a) ∧ w'.cell? ⟨g6, 1, none⟩ = some (.int .i64 b) ∧ w'.cell? ⟨g6, 2, none⟩ = some (.int .i64 c) ∧ w'.cell? ⟨g6, 3, none⟩ = some (.int .i64 d)) ∧
        (w'.cell? ⟨B, O + j * 4, none⟩ = some (.int .i64 m.W) ∧ w'.cell? ⟨B, O + j * 4 + 1, none⟩ = some (.int .i64 m.H) ∧ w'.cell? ⟨B, O + j * 4 + 2, none⟩ = some (.int .i64 m.C) ∧ w'.cell? ⟨B, O + j * 4 + 3, none⟩ = some (.slice Ai m.px.length ci)))
    (first
      | exact keepF hs5 k35 k65 hBl q0 q1 q2 q3 hB0
      | exact keepF hs5 k35 k65 hBl q0 q1 q2 q3 hB6
      | exact keepFS (keepF hs5 k35 k65 hBl q0 q1 q2 q3 hB6) (by omega) (by omega) (by omega) (by omega)
      | (refine keepF hs5 k35 k65 hBl q0 q1 q2 q3 ?_; go_grown))
    (first
      | (go_at_call 73; (with_reducible refine (hCr _ (by go_grown)).mono ?_); rintro e w6 ⟨v6, rfl, hown6, hb6⟩; have hB6 : Below w5.heap.size w5 w6 := Below.trans (by go_grown) hb6; obtain ⟨A6, c6, rfl, _⟩ := own_form hown6; have k46 := k45.nx hB6; obtain ⟨z0, z1, z2, z3⟩ := k46.cell4; have f0 := k46.frozen 0; have f1 := k46.frozen 1; have f2 := k46.frozen 2; have f3 := k46.frozen 3))
  rename_i hHeld
  clear hHeld
  have hzz : w.heap.size + 1 < w5.heap.size := by omega
  have hBx := ((((hB6.mono (show w.heap.size + 1 ≤ w5.heap.size by omega)).setCell (p := ⟨w.heap.size + 1, 0, none⟩) (Nat.le_refl _) (.int .i64 (c - a))).setCell (p := ⟨w.heap.size + 1, 1, none⟩) (Nat.le_refl _) (.int .i64 (d - b))).setCell (p := ⟨w.heap.size + 1, 2, none⟩) (Nat.le_refl _) (.int .i64 m.C)).setCell (p := ⟨w.heap.size + 1, 3, none⟩) (Nat.le_refl _) (.slice A6 (cropL m a b c (d - b).toNat).length c6)
  have k4s := k46.set4 (.int .i64 (c - a)) (.int .i64 (d - b)) (.int .i64 m.C) (.slice A6 (cropL m a b c (d - b).toNat).length c6)
  have hfar : ∀ g, (Value.slice A6 (cropL m a b c (d - b).toNat).length c6).ownBlock = some g → w5.drew.heap.size ≤ g ∧ g < w6.heap.size := fun g hg => hown6.lt g hg
  have hz5 : w5.drew.heap.size = w5.heap.size := rfl
  have hown7 := own_far (own_far (own_far (own_far (own_base hown6 (Nat.zero_le _)) ⟨w.heap.size + 1, 0, none⟩ (.int .i64 (c - a)) (fun g hg => by have := (hfar g hg).1; simp; omega)) ⟨w.heap.size + 1, 1, none⟩ (.int .i64 (d - b)) (fun g hg => by have := (hfar g hg).1; simp; omega)) ⟨w.heap.size + 1, 2, none⟩ (.int .i64 m.C) (fun g hg => by have := (hfar g hg).1; simp; omega)) ⟨w.heap.size + 1, 3, none⟩ (.slice A6 (cropL m a b c (d - b).toNat).length c6) (fun g hg => by have := (hfar g hg).1; simp; omega)
  have hgs5 : w.heap.size ≤ w5.heap.size := g5.size
  go_wp2_with fail
  refine bodyPost_ret (res_cell_tmp rfl k4s rfl Tryz.underlying44 rfl img_size) rfl ?_
  clear k4s
  generalize (((w6.setCell ⟨w.heap.size + 1, 0, none⟩ (.int .i64 (c - a))).setCell ⟨w.heap.size + 1, 1, none⟩ (.int .i64 (d - b))).setCell ⟨w.heap.size + 1, 2, none⟩ (.int .i64 m.C)).setCell ⟨w.heap.size + 1, 3, none⟩ (.slice A6 (cropL m a b c (d - b).toNat).length c6) = w7 at *
  have g7 : Chg r (fun q => q = 2) w w7 := ⟨g5.bel.trans (hBx.mono (Nat.zero_le _)), fun i hi hn => (hBx.block i (by omega)).trans (g5.out i hi hn)⟩
  have so7 : Bk w7 K.gs 79 (soA K.A K.n K.c K.tw K.th (s.cnt + 1)) := by
    rw [HGS.out, HA.out]
    exact hs5.below hBx (by omega)
  obtain ⟨hA, hB⟩ := H.out.fetched g7 so7
  refine ⟨_, rfl, hA, hB, j, hj, .slice A6 (cropL m a b c (d - b).toNat).length c6, rfl, HI.out, ?_, ?_, ?_⟩
  · dsimp only
    rw [HQ.out.1, HQ.out.2.1, HQ.out.2.2.1, HQ.out.2.2.2, HM.out]
  · have e : tlB K.ims[j] K.tw K.th i = cropL m a b c (d - b).toNat := by
      unfold tlB
      rw [HQ.out.1, HQ.out.2.1, HQ.out.2.2.1, HQ.out.2.2.2, HM.out]
    rw [e]
    exact hown7
  · intro g hg
    exact H.out.fresh g (by have := (hfar g hg).1; omega)
end
end Go.Proofs.YtahiaeaobbofbaaGreat
end
