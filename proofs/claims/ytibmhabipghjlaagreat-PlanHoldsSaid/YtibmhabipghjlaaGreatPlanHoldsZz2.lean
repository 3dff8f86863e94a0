/- Several texts in one: A bundle: below the first world all is as it was, and some blocks lie whole. A region that draws its order: operations that read, and calls that lay blocks of their own, in whatever order; then a tail, one by one. grid: what is wrong with a grid; how many tiles it has. Rectangles, of the program and of the reference. What the row's reading tells of an argument: 'Rv' (its cells can be read as data of a type), opened type by type. What a transform's map answers (the bundles MapFn, NewIs, NewMp); xform.Check, Size and Kind out of them. Rectangles: the places that two have. The cache's layers: whether a place is in a rectangle; an image's tiles. -/
import Derived.Test.YtibmhabipghjlaaGreatPlanHoldsZz1
import Derived.StillTail
import Derived.Lib.QuietBelow
import Derived.BigQuiet
import Derived.Deep.QuietTactic
import Derived.WalkSpells
import Derived.ProofKit
import Derived.OpenShut
import Derived.Carry
import Derived.ChangeOld
import Derived.Deep.Slices
import Derived.Deep.Cut
import Derived.Deep.DeepCutAuto
import Derived.Laws.StructEq
section
set_option linter.unusedVariables false
namespace Go.Proofs.YtibmhabipghjlaaGreat
open Go.RowKit
/-- Since w0 nothing old has changed, and each block of L lies whole in w. -/
def Lie (w0 : World) (L : List (Nat × TypeId × Array Value)) (w : World) : Prop := Below w0.heap.size w0 w ∧ ∀ x ∈ L, Bk w x.1 x.2.1 x.2.2
section
variable {w0 w w' : World} {L : List (Nat × TypeId × Array Value)}
theorem Lie.start (w : World) : Lie w [] w := ⟨Below.refl _ _, by simp⟩
theorem Lie.bel (h : Lie w0 L w) : Below w0.heap.size w0 w := h.1
theorem Lie.sz (h : Lie w0 L w) : w0.heap.size ≤ w.heap.size := h.1.size
theorem Lie.nx (h : Lie w0 L w) (hb : Below w.heap.size w w') : Lie w0 L w' := ⟨h.1.trans (hb.mono h.sz), fun x hx => (h.2 x hx).nx hb⟩
theorem Lie.alloc (h : Lie w0 L w) (cs : Array Value) (t : TypeId) : Lie w0 ((w.heap.size, t, cs) :: L) (w.alloc (.cells cs t)) := by
  refine ⟨h.1.alloc h.sz _, fun x hx => ?_⟩
  rcases List.mem_cons.1 hx with rfl | hx
  · exact Bk.new w t cs
  · exact (h.2 x hx).alloc _
theorem Lie.grown {g : Nat} (h : Lie w0 L w) (hg : w.grownBy w' (some g)) (hB : w0.heap.size ≤ g) (hne : ∀ x ∈ L, x.1 ≠ g) : Lie w0 L w' :=
  ⟨below_of_gb h.1 hg hB h.sz, fun x hx => (h.2 x hx).grown hg (fun e => hne x hx (by injection e))⟩
theorem Lie.set {g : Nat} {t t' : TypeId} {cs cs' : Array Value} (h : Lie w0 ((g, t, cs) :: L) w) (hg : w.grownBy w' (some g)) (hK : Bk w' g t' cs') (hB : w0.heap.size ≤ g) (hne : ∀ x ∈ L, x.1 ≠ g) : Lie w0 ((g, t', cs') :: L) w' := by
  refine ⟨below_of_gb h.1 hg hB h.sz, fun x hx => ?_⟩
  rcases List.mem_cons.1 hx with rfl | hx2
  · exact hK
  · exact (h.2 x (List.mem_cons_of_mem _ hx2)).grown hg (fun e => hne x hx2 (by injection e))
theorem Lie.drew (h : Lie w0 L w) : Lie w0 L w.drew := ⟨below_drewN h.1 1, h.2⟩
theorem Lie.drewN (h : Lie w0 L w) (n : Nat) : Lie w0 L (w.drewN n) := ⟨below_drewN h.1 n, h.2⟩
theorem Lie.sub {L' : List (Nat × TypeId × Array Value)} (h : Lie w0 L w) (hs : ∀ x ∈ L', x ∈ L) : Lie w0 L' w := ⟨h.1, fun x hx => h.2 x (hs x hx)⟩
theorem Lie.own {base n size : Nat} {e : TypeId} {v : Value} {xs : List Value} (hw : w.ownsRow base e size v n xs) (hb : Below w.heap.size w w') : w'.ownsRow base e size v n xs := own_below hw hb (Nat.le_refl _)
theorem Lie.rd {B : Nat} {A : Option Addr} {xs : List Value} (h : Lie w0 L w) (hr : Rd w0 B A xs) (hB : B ≤ w0.heap.size) : Rd w B A xs := hr.below' h.1 hB
theorem Lie.k (h : Lie w0 L w) (i : Nat) (hi : i < L.length) : Bk w (L[i]).1 (L[i]).2.1 (L[i]).2.2 := h.2 _ (List.getElem_mem hi)
end
section
variable {w : World} {g : Nat} {t : TypeId} {v0 v1 v2 v3 v4 v5 v6 v7 v8 v9 v10 : Value}
theorem Bk.cell5 (h : Bk w g t #[v0, v1, v2, v3, v4]) : w.cell? ⟨g, 0, none⟩ = some v0 ∧ w.cell? ⟨g, 1, none⟩ = some v1 ∧ w.cell? ⟨g, 2, none⟩ = some v2 ∧ w.cell? ⟨g, 3, none⟩ = some v3 ∧ w.cell? ⟨g, 4, none⟩ = some v4 :=
  ⟨by rw [h.cell]; rfl, by rw [h.cell]; rfl, by rw [h.cell]; rfl, by rw [h.cell]; rfl, by rw [h.cell]; rfl⟩
theorem Bk.cell8 (h : Bk w g t #[v0, v1, v2, v3, v4, v5, v6, v7]) : w.cell? ⟨g, 0, none⟩ = some v0 ∧ w.cell? ⟨g, 1, none⟩ = some v1 ∧ w.cell? ⟨g, 2, none⟩ = some v2 ∧ w.cell? ⟨g, 3, none⟩ = some v3 ∧ w.cell? ⟨g, 4, none⟩ = some v4 ∧ w.cell? ⟨g, 5, none⟩ = some v5 ∧ w.cell? ⟨g, 6, none⟩ = some v6 ∧ w.cell? ⟨g, 7, none⟩ = some v7 :=
  ⟨by rw [h.cell]; rfl, by rw [h.cell]; rfl, by rw [h.cell]; rfl, by rw [h.cell]; rfl, by rw [h.cell]; rfl, by rw [h.cell]; rfl, by rw [h.cell]; rfl, by rw [h.cell]; rfl⟩
theorem Bk.cell11 (h : Bk w g t #[v0, v1, v2, v3, v4, v5, v6, v7, v8, v9, v10]) : w.cell? ⟨g, 0, none⟩ = some v0 ∧ w.cell? ⟨g, 1, none⟩ = some v1 ∧ w.cell? ⟨g, 2, none⟩ = some v2 ∧ w.cell? ⟨g, 3, none⟩ = some v3 ∧ w.cell? ⟨g, 4, none⟩ = some v4 ∧ w.cell? ⟨g, 5, none⟩ = some v5 ∧ w.cell? ⟨g, 6, none⟩ = some v6 ∧ w.cell? ⟨g, 7, none⟩ = some v7 ∧ w.cell? ⟨g, 8, none⟩ = some v8 ∧ w.cell? ⟨g, 9, none⟩ = some v9 ∧ w.cell? ⟨g, 10, none⟩ = some v10 :=
  ⟨by rw [h.cell]; rfl, by rw [h.cell]; rfl, by rw [h.cell]; rfl, by rw [h.cell]; rfl, by rw [h.cell]; rfl, by rw [h.cell]; rfl, by rw [h.cell]; rfl, by rw [h.cell]; rfl, by rw [h.cell]; rfl, by rw [h.cell]; rfl, by rw [h.cell]; rfl⟩
end
end Go.Proofs.YtibmhabipghjlaaGreat
end
section
set_option linter.unusedVariables false
namespace Go.Proofs.YtibmhabipghjlaaGreat
open Go.RowKit Go.Sort
section
variable {P : Program} {ops : Array Oper} {md : Region.Mode} {C : World → Prop}
/-- f operations of the first n, in whatever order, each quiet in the class; then L. -/
def HeadQ (P : Program) (md : Region.Mode) (ops : Array Oper) (C : World → Prop) (n : Nat) (L : Array Bool → Act → Prop) : Nat → Array Bool → Act → Prop
  | 0, ls, a => L ls a
  | f + 1, ls, a => Region.ready md ops ls ≠ [] ∧ ∀ j ∈ Region.ready md ops ls, j < n ∧ qOp P ops C j (HeadQ P md ops C n L f (ls.setIfInBounds j true)) a
/-- Nobody who could come up before operation i touches its slots. -/
def FreeAt (md : Region.Mode) (ops : Array Oper) (ls : Array Bool) (i : Nat) (oi : Oper) : Prop :=
  ∀ j oj, ops[j]? = some oj → j ≠ i → ls.getD j true = false → (∀ e ∈ oj.after, Region.binds md e = true → e.on ≠ i) → oi.apart ops oj = true
theorem FreeAt.set {ls : Array Bool} {i j : Nat} {oi : Oper} (h : FreeAt md ops ls i oi) (hj : ls.getD j true = false) : FreeAt md ops (ls.setIfInBounds j true) i oi := by
  intro k ok hk hki hun hno
  rcases Nat.decEq j k with hne | heq
  · exact h k ok hk hki (by rw [getD_set_ne true hne] at hun; exact hun) hno
  · subst heq
    exact h j ok hk hki hj hno
theorem HeadQ.run {n g : Nat} {L : Array Bool → Act → Prop} {Q' : Exit → Act → World → Prop} (hL : ∀ ls a w, C w → L ls a → wpAny P md ops Q' g ls a w) (f : Nat) : ∀ (ls : Array Bool) (a : Act) (w : World), C w → HeadQ P md ops C n L f ls a → wpAny P md ops Q' (f + g) ls a w := by
  induction f with
  | zero => intro ls a w hw h; rw [Nat.zero_add]; exact hL ls a w hw h
  | succ f ih =>
    intro ls a w hw h
    rw [Nat.succ_add]
    exact ⟨fun h0 => absurd h0 h.1, fun i hi => wpOp_of_qOp hw (fun a' w' hw' h' => ih _ a' w' hw' h') (h.2 i hi).2⟩
/-- What holds of the operation that is taken first. -/
structure Takes (md : Region.Mode) (ops : Array Oper) (n i : Nat) (oi : Oper) (L : Array Bool → Act → Prop) : Prop where
  at_ : ops[i]? = some oi
  sel : Region.noSelect ops = true
  low : i < n
  wait : ∀ ls, HeadInv md ops n ls → ls.getD i true = false → ∀ j ∈ Region.ready md ops ls, j < n
  done : ∀ ls a, L ls a → ∀ j ∈ Region.ready md ops ls, n ≤ j
theorem Takes.head {n i : Nat} {oi : Oper} {L : Array Bool → Act → Prop} (t : Takes md ops n i oi L) {ls : Array Bool} (inv : HeadInv md ops n ls) (hr : i ∈ Region.ready md ops ls) {j : Nat} (hj : j ∈ Region.ready md ops ls) : j < n :=
  t.wait ls inv (mem_ready.1 hr).1 j hj
theorem HeadQ.first {n i : Nat} {oi : Oper} {v : Value} {L : Array Bool → Act → Prop} (t : Takes md ops n i oi L) : ∀ (f : Nat) (ls : Array Bool) (a : Act), HeadInv md ops n ls → FreeAt md ops ls i oi → i ∈ Region.ready md ops ls → YieldsIn P ops C oi v a →
    HeadQ P md ops C n L f (ls.setIfInBounds i true) (a.put oi.dst v) → HeadQ P md ops C n L (f + 1) ls a := by
  intro f
  induction f with
  | zero =>
    intro ls a inv hfree hr hy H
    refine ⟨List.ne_nil_of_mem hr, fun j hj => ⟨t.head inv hr hj, ?_⟩⟩
    rcases Nat.decEq j i with hne | heq
    · exact absurd (t.done _ _ H j (ready_mono hj hne)) (by have := t.head inv hr hj; omega)
    · subst heq
      exact hy.qOp t.at_ H
  | succ f ih =>
    intro ls a inv hfree hr hy H
    refine ⟨List.ne_nil_of_mem hr, fun j hj => ⟨t.head inv hr hj, ?_⟩⟩
    rcases Nat.decEq j i with hne | heq
    · obtain ⟨hun, oj, hoj, hall⟩ := mem_ready.1 hj
      have hno : ∀ e ∈ oj.after, Region.binds md e = true → e.on ≠ i := fun e he hb h => by
        have h1 := hall e he hb
        rw [h, getD_both (mem_ready.1 hr).1] at h1
        exact Bool.noConfusion h1
      have hsel := Region.noSelect_spec t.sel
      have hput := qOp_put hoj (hfree j oj hoj hne hun hno) (fun cs b => hsel i oi cs b t.at_) (fun cs b => hsel j oj cs b hoj) hy (H.2 j (ready_mono hj hne)).2
      refine qOp_mono (fun a' h => ih _ a' (inv.set hj (t.head inv hr hj)) (hfree.set hun) (ready_mono hr (Ne.symm hne)) h.1 ?_) hput
      rw [Array.setIfInBounds_comm _ _ hne]
      exact h.2
    · subst heq
      exact hy.qOp t.at_ H
theorem HeadQ.lex {n g : Nat} {Lq : Act → Prop} (hsel : Region.noSelect ops = true) (hs : Region.sinkB md ops n = true) (hc : Region.chainB md ops n = true) (hn : n < ops.size) (l : List Oper) :
    ∀ (k : Nat) (ls : Array Bool) (a : Act), (∀ j, j < l.length → l[j]? = ops[k + j]?) → k + l.length = n → HeadInv md ops n ls → Region.lexHead md ops g l.length k ls = true → wpQuiet P ops C Lq l a →
      HeadQ P md ops C n (fun ls' a' => Region.seqB md ops g n ls' = true ∧ Lq a') l.length ls a := by
  induction l with
  | nil =>
    intro k ls a _ hk _ hB h
    obtain rfl : k = n := by simpa using hk
    exact ⟨hB, h⟩
  | cons o l ih =>
    intro k ls a hl hk inv hB h
    have ho : ops[k]? = some o := by have := hl 0 (by simp); simpa using this.symm
    rw [List.length_cons] at hk hB
    simp only [Region.lexHead, Bool.and_eq_true] at hB
    have hkn : k < n := by omega
    have hr : k ∈ Region.ready md ops ls := by simpa using hB.1.1
    obtain ⟨v, hy, hK⟩ := yieldsIn_of_qOp (K := wpQuiet P ops C Lq l) ho (by unfold qOp; simp only [ho]; exact h)
    exact HeadQ.first ⟨ho, hsel, hkn, fun ls' inv' hun j hj => (Nat.lt_or_ge j n).elim id (fun h => absurd hj (tail_waits hs hc hn inv' _ k rfl hkn hun j h)), fun ls' a' hL => seqB_ready hL.1⟩ l.length ls a inv (Region.free_spec ho hB.1.2) hr hy
      (ih (k + 1) _ _ (fun j hj => by have := hl (j + 1) (by simp; omega); rw [show k + 1 + j = k + (j + 1) by omega, ← this]; rfl) (by omega) (inv.set hr hkn) hB.2 hK)
end
/-- Some blocks more, some draws more. -/
def Cl (w : World) (w' : World) : Prop := ∃ p : Regrown, w' = grow (redrawn w p.d) p.os
theorem wp_region_quiet_tail {P : Program} {id : Nat} {Q : Exit → Act → World → Prop} {a : Act} {w : World} {l : List Oper} (n : Nat) (hm : P.follows .mixedOrders = true) (hB : Region.lexTailB .any l.toArray n = true)
    (h : wpQuiet P l.toArray (fun w' => ∃ p : Regrown, w' = grow (redrawn w p.d) p.os) (fun a' => ∀ w', (∃ p : Regrown, w' = grow (redrawn w p.d) p.os) → wpList P l.toArray Q (l.drop n) a' w') (l.take n) a) : (Code.region id l.toArray true).wp P Q a w := by
  simp only [Region.lexTailB, Bool.and_eq_true, decide_eq_true_eq] at hB
  obtain ⟨⟨⟨⟨hsel, hn⟩, hs⟩, hc⟩, hlex⟩ := hB
  have hn2 : n < l.length := by simpa using hn
  have e1 : (l.take n).length = n := by rw [List.length_take]; omega
  have e2 : (l.drop n).length = l.toArray.size - n := by simp
  have hw : Cl w { w with drawn := w.drawn + 1 } := ⟨⟨w.drawn + 1, #[]⟩, by rw [grow_empty]; rfl⟩
  have inv : HeadInv .any l.toArray n (Array.replicate l.toArray.size false) :=
    ⟨by simp, fun j oj _ hl => (by rw [getD_replicate_false] at hl; cases hl), fun t _ ht => getD_in (by simpa using ht) (getD_replicate_false _ _)⟩
  have H := HeadQ.lex (P := P) (md := .any) (g := l.toArray.size - n) hsel hs hc hn (l.take n) 0 _ a (fun j hj => by
    rw [e1] at hj
    simp [hj]) (by omega) inv (by rw [e1]; exact hlex) h
  refine wp_region_any hm ?_
  have R := HeadQ.run (Q' := Q) (g := l.toArray.size - n) (fun ls a' w' hC hL => by
    have := wpAny_of_seq (md := .any) (Q' := Q) (l.drop n) n ls a' w' (fun j => by simp [List.getElem?_drop]) (by rw [e2]; exact hL.1) (hL.2 w' hC)
    rwa [e2] at this) _ _ _ _ hw H
  rw [e1, show n + (l.toArray.size - n) = l.toArray.size by omega] at R
  exact R
/-- A load of a whole variable that lies in an old block, in every world of the class. -/
theorem load_regrown {P : Program} {w : World} {g : Nat} {t ty : TypeId} {cs : Array Value} (hK : Bk w g t cs) {d : TypeDesc} (hu : P.underlying ty = some d) (hd : (match d with | .struct _ | .array _ _ => true | _ => false) = true) (hi : (P.info? ty).map (·.size) = some cs.size) (n : Nat) (os : Array Obj) :
    (loadVar ty ⟨g, 0, none⟩).run P (grow (redrawn w n) os) = .ok (.agg cs) (grow (redrawn w n) os) :=
  run_loadVar_row (grow (redrawn w n) os) g t ty cs (0, 0) d (hK.nx (below_regrown w n os)) hu hd hi
/-- The load of a whole variable, as a step of the quiet walk. -/
theorem wpQuiet_load {P : Program} {ops : Array Oper} {rest : List Oper} {o : Oper} {a : Act} {w : World} {Q : Act → Prop} (hgd : o.guard = none) (ty : TypeId) (x : Operand) (ho : o.op = .load ty x)
    {g : Nat} {t : TypeId} {cs : Array Value} (hK : Bk w g t cs) (hx : a.eval x = .pointer (some ⟨g, 0, none⟩)) {d : TypeDesc} (hu : P.underlying ty = some d) (hd : (match d with | .struct _ | .array _ _ => true | _ => false) = true) (hi : (P.info? ty).map (·.size) = some cs.size)
    (h : wpQuiet P ops (fun w' => ∃ p : Regrown, w' = grow (redrawn w p.d) p.os) Q rest (a.put o.dst (.agg cs))) : wpQuiet P ops (fun w' => ∃ p : Regrown, w' = grow (redrawn w p.d) p.os) Q (o :: rest) a := by
  refine wpQuiet_step fun K hK2 => ?_
  have hw : Region.wanted o (yielded ops a.tmps) = true := by unfold Region.wanted; rw [hgd]
  rw [if_pos hw]
  refine ⟨.agg cs, fun w' hw' => ?_, hK2 _ h⟩
  obtain ⟨⟨n, os⟩, rfl⟩ := hw'
  have hl := load_regrown (P := P) (ty := ty) hK hu hd hi n os
  unfold Oper.quietAt execOp
  simp only [ho, hx, Instr.loadAt, Instr.sureAddr, Sem.run_bind, Sem.run_pure, Result.andThen_ok, hl]
  exact ⟨rfl, rfl⟩
theorem quiet_call {P : Program} {f : FuncId} {args : Array Value} {w : World} {d : Nat} {os : Array Obj} {v : Value} {R : Ending → World → Prop} (h : Calls P f args (grow (redrawn w d) os) R) (hR : ∀ e w', R e w' → e = .returned v ∧ Below (grow (redrawn w d) os).heap.size (grow (redrawn w d) os) w') :
    Calls P f args (grow (redrawn w d) os) fun e w'' => e = .returned v ∧ ∃ p : Regrown, w'' = grow (redrawn w p.d) p.os := Calls.regrown_of (h.mono hR)
theorem quiet_below {P : Program} {f : FuncId} {args : Array Value} {w : World} {d : Nat} {os : Array Obj} {v : Value} (h : Calls P f args (grow (redrawn w d) os) fun e w' => e = .returned v ∧ Below (grow (redrawn w d) os).heap.size (grow (redrawn w d) os) w') :
    Calls P f args (grow (redrawn w d) os) fun e w'' => e = .returned v ∧ ∃ p : Regrown, w'' = grow (redrawn w p.d) p.os := Calls.regrown_of h
theorem quiet_eq {P : Program} {f : FuncId} {args : Array Value} {w : World} {d : Nat} {os : Array Obj} {v : Value} (h : Calls P f args (grow (redrawn w d) os) fun e w' => e = .returned v ∧ grow (redrawn w d) os = w') :
    Calls P f args (grow (redrawn w d) os) fun e w'' => e = .returned v ∧ ∃ p : Regrown, w'' = grow (redrawn w p.d) p.os := h.mono fun e w' ⟨h1, h2⟩ => ⟨h1, ⟨d, os⟩, h2.symm⟩
end Go.Proofs.YtibmhabipghjlaaGreat
end
section
set_option linter.unusedVariables false
namespace Go.Proofs.YtibmhabipghjlaaGreat
open Go.RowKit
abbrev grA (W H TW TH : Int) : Array Value := #[.int .i64 W, .int .i64 H, .int .i64 TW, .int .i64 TH]
abbrev grV (W H TW TH : Int) : Value := .agg (grA W H TW TH)
def grC (W H TW TH : Int) : Int := if 32768 < W ∨ 32768 < H then 30 else if W < 1 ∨ H < 1 then 12 else if TW < 1 ∨ 4096 < TW ∨ TH < 1 ∨ 4096 < TH then 10 else 0
theorem gr_cases (W H TW TH : Int) : (32768 < W ∧ Hid (grC W H TW TH = 30)) ∨ (W ≤ 32768 ∧ 32768 < H ∧ Hid (grC W H TW TH = 30)) ∨ (W ≤ 32768 ∧ H ≤ 32768 ∧ W < 1 ∧ Hid (grC W H TW TH = 12)) ∨ (W ≤ 32768 ∧ H ≤ 32768 ∧ 1 ≤ W ∧ H < 1 ∧ Hid (grC W H TW TH = 12))
    ∨ (W ≤ 32768 ∧ H ≤ 32768 ∧ 1 ≤ W ∧ 1 ≤ H ∧ TW < 1 ∧ Hid (grC W H TW TH = 10)) ∨ (W ≤ 32768 ∧ H ≤ 32768 ∧ 1 ≤ W ∧ 1 ≤ H ∧ 1 ≤ TW ∧ 4096 < TW ∧ Hid (grC W H TW TH = 10)) ∨ (W ≤ 32768 ∧ H ≤ 32768 ∧ 1 ≤ W ∧ 1 ≤ H ∧ 1 ≤ TW ∧ TW ≤ 4096 ∧ TH < 1 ∧ Hid (grC W H TW TH = 10)) ∨ (W ≤ 32768 ∧ H ≤ 32768 ∧ 1 ≤ W ∧ 1 ≤ H ∧ 1 ≤ TW ∧ TW ≤ 4096 ∧ 1 ≤ TH ∧ 4096 < TH ∧ Hid (grC W H TW TH = 10))
    ∨ (W ≤ 32768 ∧ H ≤ 32768 ∧ 1 ≤ W ∧ 1 ≤ H ∧ 1 ≤ TW ∧ TW ≤ 4096 ∧ 1 ≤ TH ∧ TH ≤ 4096 ∧ Hid (grC W H TW TH = 0)) := by
  unfold grC Hid
  by_cases h1 : 32768 < W
  · exact .inl ⟨h1, by rw [if_pos (.inl h1)]⟩
  by_cases h2 : 32768 < H
  · exact .inr (.inl ⟨by omega, h2, by rw [if_pos (.inr h2)]⟩)
  rw [if_neg (by omega)]
  by_cases h3 : W < 1
  · exact .inr (.inr (.inl ⟨by omega, by omega, h3, by rw [if_pos (.inl h3)]⟩))
  by_cases h4 : H < 1
  · exact .inr (.inr (.inr (.inl ⟨by omega, by omega, by omega, h4, by rw [if_pos (.inr h4)]⟩)))
  rw [if_neg (by omega)]
  by_cases h5 : TW < 1
  · exact .inr (.inr (.inr (.inr (.inl ⟨by omega, by omega, by omega, by omega, h5, by rw [if_pos (.inl h5)]⟩))))
  by_cases h6 : 4096 < TW
  · exact .inr (.inr (.inr (.inr (.inr (.inl ⟨by omega, by omega, by omega, by omega, by omega, h6, by rw [if_pos (.inr (.inl h6))]⟩)))))
  by_cases h7 : TH < 1
  · exact .inr (.inr (.inr (.inr (.inr (.inr (.inl ⟨by omega, by omega, by omega, by omega, by omega, by omega, h7, by rw [if_pos (.inr (.inr (.inl h7)))]⟩))))))
  by_cases h8 : 4096 < TH
  · exact .inr (.inr (.inr (.inr (.inr (.inr (.inr (.inl ⟨by omega, by omega, by omega, by omega, by omega, by omega, by omega, h8, by rw [if_pos (.inr (.inr (.inr h8)))]⟩)))))))
  · exact .inr (.inr (.inr (.inr (.inr (.inr (.inr (.inr ⟨by omega, by omega, by omega, by omega, by omega, by omega, by omega, by omega, by rw [if_neg (by omega)]⟩)))))))
theorem grC_zero {W H TW TH : Int} : grC W H TW TH = 0 ↔ ((1 ≤ W ∧ W ≤ 32768) ∧ (1 ≤ H ∧ H ≤ 32768) ∧ (1 ≤ TW ∧ TW ≤ 4096) ∧ (1 ≤ TH ∧ TH ≤ 4096)) := by
  unfold grC
  constructor
  · intro h
    split at h
    · cases h
    · split at h
      · cases h
      · split at h
        · cases h
        · omega
  · rintro h
    rw [if_neg (by omega), if_neg (by omega), if_neg (by omega)]
set_option maxRecDepth 100000 in
set_option maxHeartbeats 8000000 in
theorem gcheck_any (W H TW TH : Int) (w : World) : Calls Tryz.prog 23 #[grV W H TW TH] w fun e w' => e = .returned (.int .i64 (grC W H TW TH)) ∧ Below w.heap.size w w' := by
  have hb := (Below.refl w.heap.size w).alloc (Nat.le_refl _) (.cells (grA W H TW TH) 71)
  rcases gr_cases W H TW TH with ⟨h1, HE⟩ | ⟨h1, h2, HE⟩ | ⟨h1, h2, h3, HE⟩ | ⟨h1, h2, h3, h4, HE⟩ | ⟨h1, h2, h3, h4, h5, HE⟩ | ⟨h1, h2, h3, h4, h5, h6, HE⟩ | ⟨h1, h2, h3, h4, h5, h6, h7, HE⟩ | ⟨h1, h2, h3, h4, h5, h6, h7, h8, HE⟩ | ⟨h1, h2, h3, h4, h5, h6, h7, h8, HE⟩
  all_goals
    go_enter Tryz.func23, Tryz.ntmps23
    go_wp2_with fail
    go_returns
    exact ⟨by rw [HE.out]; rfl, hb⟩
set_option maxRecDepth 100000 in
set_option maxHeartbeats 8000000 in
theorem rgcheck_any (W H TW TH : Int) (w : World) : Calls Tryz.prog 19 #[grV W H TW TH] w fun e w' => e = .returned (.int .i64 (grC W H TW TH)) ∧ Below w.heap.size w w' := by
  have hb := (Below.refl w.heap.size w).alloc (Nat.le_refl _) (.cells (grA W H TW TH) 65)
  rcases gr_cases W H TW TH with ⟨h1, HE⟩ | ⟨h1, h2, HE⟩ | ⟨h1, h2, h3, HE⟩ | ⟨h1, h2, h3, h4, HE⟩ | ⟨h1, h2, h3, h4, h5, HE⟩ | ⟨h1, h2, h3, h4, h5, h6, HE⟩ | ⟨h1, h2, h3, h4, h5, h6, h7, HE⟩ | ⟨h1, h2, h3, h4, h5, h6, h7, h8, HE⟩ | ⟨h1, h2, h3, h4, h5, h6, h7, h8, HE⟩
  all_goals
    go_enter Tryz.func19, Tryz.ntmps19
    go_wp2_with fail
    go_returns
    exact ⟨by rw [HE.out]; rfl, hb⟩
theorem gr_size : (Tryz.prog.info? 71).map (·.size) = some 4 := by kernel_rfl
theorem rgr_size : (Tryz.prog.info? 65).map (·.size) = some 4 := by kernel_rfl
set_option maxHeartbeats 2000000 in
theorem gright_any (W H TW TH : Int) (w : World) : Calls Tryz.prog 64 #[grV W H TW TH] w fun e w' => e = .returned (.bool (grC W H TW TH == 0)) ∧ Below w.heap.size w w' := by
  have hL := (Lie.start w).alloc (grA W H TW TH) 71
  have hK : Bk (w.alloc (.cells (grA W H TW TH) 71)) w.heap.size 71 (grA W H TW TH) := hL.k 0 (by simp)
  have hC := fun w' => gcheck_any W H TW TH w'
  generalize grC W H TW TH = C at *
  go_enter Tryz.func64, Tryz.ntmps64
  go_wp2_with (first
    | (refine ldB rfl _ _ rfl hK rfl Tryz.underlying71 rfl gr_size ?_)
    | (go_at_call 23; (with_reducible refine (hC _).mono ?_); rintro e w1 ⟨rfl, hb1⟩))
  go_returns
  exact ⟨rfl, (hL.nx hb1).bel⟩
/-- how many tiles stand along a side. -/
def grN (W T : Int) : Int := (W + T - 1) / T
theorem grN_bd {W T : Int} (hW : 1 ≤ W ∧ W ≤ 32768) (hT : 1 ≤ T ∧ T ≤ 4096) : 1 ≤ grN W T ∧ grN W T ≤ 36864 ∧ Int.tdiv (W + T - 1) T = grN W T := by
  unfold grN
  refine ⟨?_, ?_, Int.tdiv_eq_ediv_of_nonneg (by omega)⟩
  · rw [Int.le_ediv_iff_mul_le (by omega)]; omega
  · exact Int.le_trans (Int.ediv_le_self T (by omega)) (by omega)
set_option maxRecDepth 100000 in
set_option maxHeartbeats 4000000 in
theorem gcols_any (W H TW TH : Int) (w : World) (h0 : grC W H TW TH = 0) : Calls Tryz.prog 69 #[grV W H TW TH] w fun e w' => e = .returned (.int .i64 (grN W TW)) ∧ Below w.heap.size w w' := by
  obtain ⟨hW, hH, hTW, hTH⟩ := grC_zero.1 h0
  obtain ⟨n0, n1, n2⟩ := grN_bd hW hTW
  have hL := (Lie.start w).alloc (grA W H TW TH) 71
  have hK : Bk (w.alloc (.cells (grA W H TW TH) 71)) w.heap.size 71 (grA W H TW TH) := hL.k 0 (by simp)
  have hR := fun w' => gright_any W H TW TH w'
  rw [h0] at hR
  have k1 : wrap64 (W + TW) = W + TW := IntWalk.wrap64_in _ ⟨by omega, by omega⟩
  have k2 : wrap64 (W + TW - 1) = W + TW - 1 := IntWalk.wrap64_in _ ⟨by omega, by omega⟩
  have k3 : wrap64 (Int.tdiv (W + TW - 1) TW) = grN W TW := by rw [n2]; exact IntWalk.wrap64_in _ ⟨by omega, by omega⟩
  have t1 : 1 ≤ TW := hTW.1
  have b0 : (TW == 0) = false := by simp; omega
  have b1 : (TW == -1) = false := by simp; omega
  clear h0 hW hH hTW hTH n0 n1
  have N2 := Lib.hid n2
  clear n2
  go_enter Tryz.func69, Tryz.ntmps69
  go_wp2_with (first
    | (refine ldB rfl _ _ rfl hK rfl Tryz.underlying71 rfl gr_size ?_)
    | (go_at_call 64; (with_reducible refine (hR _).mono ?_); rintro e w1 ⟨rfl, hb1⟩; have q1 := (hK.nx hb1).cell4; obtain ⟨c0, c1, c2, c3⟩ := q1))
  go_returns
  exact ⟨ret_int (by first | exact k3 | exact N2.out | rfl), (hL.nx hb1).bel⟩
end Go.Proofs.YtibmhabipghjlaaGreat
end
section
set_option linter.unusedVariables false
namespace Go.Proofs.YtibmhabipghjlaaGreat
open Go.RowKit
abbrev rc_inR (x : Int) : Prop := -2147483648 ≤ x ∧ x ≤ 2147483648
abbrev rc_rightR (a b c d : Int) : Prop := rc_inR a ∧ rc_inR b ∧ rc_inR c ∧ rc_inR d
abbrev rc_emptyR (a b c d : Int) : Prop := ¬ rc_rightR a b c d ∨ c ≤ a ∨ d ≤ b
abbrev rc_rect4 (a b c d : Int) : Value := .agg #[.int .i64 a, .int .i64 b, .int .i64 c, .int .i64 d]
theorem rc_wsub {a b : Int} (ha : rc_inR a) (hb : rc_inR b) : wrap64 (a - b) = a - b := IntWalk.wrap64_in _ ⟨by omega, by omega⟩
theorem rc_bl_alloc {w w' : World} {o : Obj} (hb : Below (w.alloc o).heap.size (w.alloc o) w') : Below w.heap.size w w' :=
  ((Below.refl _ w).alloc (Nat.le_refl _) _).trans (hb.mono (by simp))
set_option maxHeartbeats 400000 in
theorem rc_rin_any (x : Int) (w : World) : Calls Tryz.prog 132 #[.int .i64 x] w fun e w' => e = .returned (.bool (decide (rc_inR x))) ∧ w = w' := by
  by_cases h1 : -2147483648 ≤ x
  all_goals
    go_enter Tryz.func132, Tryz.ntmps132
    go_wp2
    go_ret
    exact ⟨ret_bool (by simp [rc_inR]; try omega), rfl⟩
set_option maxHeartbeats 1000000 in
theorem rc_right_any (a b c d : Int) (w : World) : Calls Tryz.prog 97 #[rc_rect4 a b c d] w fun e w' => e = .returned (.bool (decide (rc_rightR a b c d))) ∧ Below w.heap.size w w' := by
  go_enter Tryz.func97, Tryz.ntmps97
  go_wp2_with (go_at_call 132; (with_reducible refine (rc_rin_any _ _).mono ?_); rintro e w' ⟨rfl, rfl⟩)
  all_goals
    go_returns
    refine ⟨ret_bool ?_, by go_grown⟩
    simp_all [rc_rightR, rc_inR]
    try omega
set_option maxHeartbeats 1000000 in
theorem rc_empty_any (a b c d : Int) (w : World) : Calls Tryz.prog 67 #[rc_rect4 a b c d] w fun e w' => e = .returned (.bool (decide (rc_emptyR a b c d))) ∧ Below w.heap.size w w' := by
  by_cases hr : rc_rightR a b c d
  · have hd : decide (rc_rightR a b c d) = true := decide_eq_true hr
    have HR := Lib.hid hr
    clear hr
    go_enter Tryz.func67, Tryz.ntmps67
    go_wp2_with (go_at_call 97; (with_reducible refine (rc_right_any _ _ _ _ _).mono ?_); rintro e w' ⟨rfl, hb⟩; have hcb := bcell hb; have hb1 := rc_bl_alloc hb)
    all_goals
      go_returns
      refine ⟨ret_bool ?_, hb1⟩
      have := HR.out
      simp_all [rc_emptyR]
      try omega
  · have hd : decide (rc_rightR a b c d) = false := decide_eq_false hr
    have HR := Lib.hid hr
    clear hr
    go_enter Tryz.func67, Tryz.ntmps67
    go_wp2_with (go_at_call 97; (with_reducible refine (rc_right_any _ _ _ _ _).mono ?_); rintro e w' ⟨rfl, hb⟩; have hcb := bcell hb; have hb1 := rc_bl_alloc hb)
    all_goals
      go_returns
      exact ⟨ret_bool (by rw [decide_eq_true (.inl HR.out : rc_emptyR a b c d)]), hb1⟩
theorem rc_rect_size : (Tryz.prog.info? 84).map (·.size) = some 4 := by kernel_rfl
abbrev rc_rectA (a b c d : Int) : Array Value := #[.int .i64 a, .int .i64 b, .int .i64 c, .int .i64 d]
theorem rc_stRect {ops : Array Oper} {rest : List Oper} {o : Oper} {a : Act} {w : World} {Q : Exit → Act → World → Prop} (hgd : o.guard = none) (x y : Operand) (ho : o.op = .store 84 x y)
    {g : Nat} {old : Array Value} (hK : Bk w g 84 old) (hold : old.size = 4) {p q r s : Int} (hx : a.eval x = .pointer (some ⟨g, 0, none⟩)) (hy : a.eval y = rc_rect4 p q r s)
    (h : ∀ w', Bk w' g 84 (rc_rectA p q r s) → w.grownBy w' (some g) → w'.heap.size = w.heap.size → wpList Tryz.prog ops Q rest (a.put o.dst undef) w') : wpList Tryz.prog ops Q (o :: rest) a w :=
  stB hgd _ x y ho hK _ hx hy rc_rect_size (by simpa using hold) (by simp [Value.oneCell']) h
theorem rc_ldRect {ops : Array Oper} {rest : List Oper} {o : Oper} {a : Act} {w : World} {Q : Exit → Act → World → Prop} (hgd : o.guard = none) (x : Operand) (ho : o.op = .load 84 x)
    {g : Nat} {p q r s : Int} (hK : Bk w g 84 (rc_rectA p q r s)) (hx : a.eval x = .pointer (some ⟨g, 0, none⟩))
    (h : wpList Tryz.prog ops Q rest (a.put o.dst (rc_rect4 p q r s)) w) : wpList Tryz.prog ops Q (o :: rest) a w :=
  ldB hgd _ x ho hK hx Tryz.underlying84 rfl rc_rect_size h
theorem rc_res_rect {fn : Func} {p : Tmp} (h : fn.results = #[.cell p 84]) {tmps : Array Value} {w : World} {g : Nat} {a b c d : Int} (hK : Bk w g 84 (rc_rectA a b c d))
    (hp : tmps.getD p undef = .pointer (some ⟨g, 0, none⟩)) : (results fn tmps).run Tryz.prog w = .ok (rc_rect4 a b c d) w :=
  res_cell h hK hp Tryz.underlying84 rfl rc_rect_size
theorem rc_below_set4 {w w' : World} {g B : Nat} (hb : Below B w w') (hg : B ≤ g) (x y z u : Value) : Below B w ((((w'.setCell ⟨g, 0, none⟩ x).setCell ⟨g, 1, none⟩ y).setCell ⟨g, 2, none⟩ z).setCell ⟨g, 3, none⟩ u) :=
  (((hb.setCell (p := ⟨g, 0, none⟩) hg x).setCell (p := ⟨g, 1, none⟩) hg y).setCell (p := ⟨g, 2, none⟩) hg z).setCell (p := ⟨g, 3, none⟩) hg u
set_option maxHeartbeats 1000000 in
theorem rc_norm_e (a b c d : Int) (w : World) (he : rc_emptyR a b c d) : Calls Tryz.prog 96 #[rc_rect4 a b c d] w fun e w' => e = .returned (rc_rect4 0 0 0 0) ∧ Below w.heap.size w w' := by
  have hd : decide (rc_emptyR a b c d) = true := decide_eq_true he
  clear he
  go_enter Tryz.func96, Tryz.ntmps96
  go_wp2_with (go_at_call 67; (with_reducible refine (rc_empty_any _ _ _ _ _).mono ?_); rintro e w' ⟨rfl, hb⟩; have hcb := bcell hb; have hb1 := rc_bl_alloc (rc_bl_alloc hb); have hK2 := (Bk.new (w.alloc (.cells (rc_rectA a b c d) 84)) 84 (rc_rectA 0 0 0 0)).nx hb)
  simp only [World.size_alloc] at hK2
  refine bodyPost_ret (rc_res_rect rfl (hK2.set4 _ _ _ _) rfl) rfl ?_
  exact ⟨rfl, rc_below_set4 hb1 (by omega) _ _ _ _⟩
set_option maxHeartbeats 1000000 in
theorem rc_norm_ok (a b c d : Int) (w : World) (he : ¬ rc_emptyR a b c d) : Calls Tryz.prog 96 #[rc_rect4 a b c d] w fun e w' => e = .returned (rc_rect4 a b c d) ∧ Below w.heap.size w w' := by
  have hd : decide (rc_emptyR a b c d) = false := decide_eq_false he
  clear he
  go_enter Tryz.func96, Tryz.ntmps96
  go_wp2_with (go_at_call 67; (with_reducible refine (rc_empty_any _ _ _ _ _).mono ?_); rintro e w' ⟨rfl, hb⟩; have hcb := bcell hb; have hb1 := rc_bl_alloc (rc_bl_alloc hb); have hK2 := (Bk.new (w.alloc (.cells (rc_rectA a b c d) 84)) 84 (rc_rectA 0 0 0 0)).nx hb)
  simp only [World.size_alloc] at hK2
  refine bodyPost_ret (rc_res_rect rfl (hK2.set4 _ _ _ _) rfl) rfl ?_
  exact ⟨rfl, rc_below_set4 hb1 (by omega) _ _ _ _⟩
/-- The norm, whatever the rectangle. -/
abbrev rc_nrm (a b c d : Int) (x : Int) : Int := if rc_emptyR a b c d then 0 else x
def rc_areaR (a b c d : Int) : Int := if rc_emptyR a b c d then 0 else if 9223372036854775807 / (d - b) < c - a then 9223372036854775807 else (c - a) * (d - b)
theorem rc_areaR_mul {a b c d : Int} (he : ¬ rc_emptyR a b c d) : ∃ W H : Int, c - a = W ∧ d - b = H ∧ 1 ≤ W ∧ 1 ≤ H ∧ W ≤ 4294967296 ∧ H ≤ 4294967296 ∧ wrap64 (c - a) = W ∧ wrap64 (d - b) = H ∧ Int.tdiv 9223372036854775807 H = 9223372036854775807 / H ∧ 0 ≤ 9223372036854775807 / H ∧ 9223372036854775807 / H ≤ 9223372036854775807 ∧ (¬ 9223372036854775807 / H < W → wrap64 (W * H) = W * H) := by
  have hr : rc_rightR a b c d := by
    by_cases h : rc_rightR a b c d
    · exact h
    · exact absurd (.inl h) he
  have h1 : ¬ c ≤ a := fun h => he (.inr (.inl h))
  have h2 : ¬ d ≤ b := fun h => he (.inr (.inr h))
  obtain ⟨ha, hb, hc, hd⟩ := hr
  refine ⟨_, _, rfl, rfl, by omega, by omega, by omega, by omega, rc_wsub hc ha, rc_wsub hd hb, ?_, ?_, ?_, fun h => ?_⟩
  · rw [Int.tdiv_eq_ediv_of_nonneg (by omega)]
  · exact Int.ediv_nonneg (by omega) (by omega)
  · exact Int.ediv_le_self _ (by omega)
  · have h3 : (c - a) * (d - b) ≤ 9223372036854775807 := (Int.le_ediv_iff_mul_le (by omega)).1 (by omega)
    have h4 : 0 ≤ (c - a) * (d - b) := Int.mul_nonneg (by omega) (by omega)
    exact IntWalk.wrap64_in _ ⟨by omega, by omega⟩
theorem rc_area_zero (a b c d : Int) : rc_areaR a b c d = 0 ↔ rc_emptyR a b c d := by
  constructor
  · intro h
    by_cases he : rc_emptyR a b c d
    · exact he
    · obtain ⟨W, H, e1, e2, h1, h2, _⟩ := rc_areaR_mul he
      have h3 : 0 < W * H := Int.mul_pos (by omega) (by omega)
      unfold rc_areaR at h
      rw [if_neg he, e1, e2] at h
      split at h <;> omega
  · intro he
    unfold rc_areaR; rw [if_pos he]
def rc_hasB (a b c d x y : Int) : Bool := decide (¬ rc_emptyR a b c d ∧ a ≤ x ∧ x < c ∧ b ≤ y ∧ y < d)
theorem rc_hasB_e {a b c d x y : Int} (h : rc_emptyR a b c d) : rc_hasB a b c d x y = false := decide_eq_false (fun k => k.1 h)
theorem rc_hasB_yes {a b c d x y : Int} (h : ¬ rc_emptyR a b c d) (h1 : a ≤ x) (h2 : x < c) (h3 : b ≤ y) (h4 : y < d) : rc_hasB a b c d x y = true := decide_eq_true ⟨h, h1, h2, h3, h4⟩
theorem rc_hasB_no {a b c d x y : Int} (h : ¬ (a ≤ x ∧ x < c ∧ b ≤ y ∧ y < d)) : rc_hasB a b c d x y = false := decide_eq_false (fun k => h k.2)
theorem rc_hasB_iff {a b c d x y : Int} : rc_hasB a b c d x y = true ↔ (¬ rc_emptyR a b c d ∧ a ≤ x ∧ x < c ∧ b ≤ y ∧ y < d) := by unfold rc_hasB; exact decide_eq_true_iff
end Go.Proofs.YtibmhabipghjlaaGreat
end
section
set_option linter.unusedVariables false
namespace Go.Proofs.YtibmhabipghjlaaGreat
open Go.RowKit
section
variable {P : Program} {w : World}
/-- The cells can be read as data of type t (as the rows read them). -/
def Rv (P : Program) (w : World) (t : TypeId) (cs : List Value) : Prop :=
  ∃ (H : Type) (enc : TypeId × Value → H) (fuel : Nat) (x : DataW H × List MemPlace), DataW.trod enc P w 0 (fun _ => true) true fuel t cs = some x
theorem rv_int {t : TypeId} {k : IntKind} {cs : List Value} (ht : P.underlying t = some (.int k)) (h : Rv P w t cs) : ∃ n, cs = [.int k n] ∧ (Lit.int k n).wf = true := by
  obtain ⟨H, enc, fuel, x, h⟩ := h
  cases fuel with
  | zero => simp [DataW.trod] at h
  | succ n =>
    unfold DataW.trod at h
    rw [ht] at h
    split at h <;> simp_all
theorem rv_bool {t : TypeId} {cs : List Value} (ht : P.underlying t = some .bool) (h : Rv P w t cs) : ∃ b, cs = [.bool b] := by
  obtain ⟨H, enc, fuel, x, h⟩ := h
  cases fuel with
  | zero => simp [DataW.trod] at h
  | succ n =>
    unfold DataW.trod at h
    rw [ht] at h
    split at h <;> simp_all
theorem rv_string {t : TypeId} {cs : List Value} (ht : P.underlying t = some .string) (h : Rv P w t cs) : ∃ s, cs = [.string s] ∧ s.size ≤ maxLen := by
  obtain ⟨H, enc, fuel, x, h⟩ := h
  cases fuel with
  | zero => simp [DataW.trod] at h
  | succ n =>
    unfold DataW.trod at h
    rw [ht] at h
    split at h <;> simp_all
theorem rv_struct {t : TypeId} {fs : Array Field} {cs : List Value} (ht : P.underlying t = some (.struct fs)) (h : Rv P w t cs) :
    cs.length = P.cellsOf t ∧ ∀ (i : Nat) (f : Field), fs[i]? = some f → Rv P w f.type ((cs.drop f.offset).take (P.cellsOf f.type)) := by
  obtain ⟨H, enc, fuel, x, h⟩ := h
  obtain ⟨xs, n, _, _, hl, hxs, hf⟩ := DataW.trod_struct ht h
  refine ⟨hl, fun i f hi => ?_⟩
  have hi2 : i < xs.length := by rw [hxs]; exact (Array.getElem?_eq_some_iff.1 hi).1
  exact ⟨H, enc, n, xs[i], by rw [hf i f hi, List.getElem?_eq_getElem hi2]⟩
theorem rv_array {t e : TypeId} {n : Nat} {cs : List Value} (ht : P.underlying t = some (.array n e)) (h : Rv P w t cs) :
    cs.length = P.cellsOf t ∧ ∀ i, i < n → Rv P w e ((cs.drop (i * P.cellsOf e)).take (P.cellsOf e)) := by
  obtain ⟨H, enc, fuel, x, h⟩ := h
  obtain ⟨xs, m, _, _, hl, hxs, hf⟩ := DataW.trod_array ht h
  refine ⟨hl, fun i hi => ?_⟩
  have hi2 : i < xs.length := by omega
  exact ⟨H, enc, m, xs[i], by rw [hf i hi, List.getElem?_eq_getElem hi2]⟩
/-- A slice: nil, or each element's cells lie one behind the other from an address on, and can be read. -/
theorem rv_slice {t e : TypeId} {cs : List Value} (ht : P.underlying t = some (.slice e)) (h : Rv P w t cs) :
    ∃ (A : Option Addr) (n c : Nat), cs = [.slice A n c] ∧ n ≤ c ∧ c ≤ maxLen ∧ (A = none → c = 0) ∧
      ∀ i, i < n → ∃ (a : Addr) (xs : List Value), A = some a ∧ xs.length = P.cellsOf e ∧ (∀ j, j < P.cellsOf e → w.cell? ((a.add (i * P.cellsOf e)).add j) = xs[j]?) ∧ Rv P w e xs := by
  obtain ⟨H, enc, fuel, x, h⟩ := h
  rcases Deep.open_slice ht h with ⟨h1, h2⟩ | ⟨a, len, cap, m, n, D, Pl, h1, h2, h3, h4, h5, h6, h7⟩
  · exact ⟨none, 0, 0, h1, Nat.le_refl _, by simp [maxLen], fun _ => rfl, fun i hi => absurd hi (by omega)⟩
  · refine ⟨some a, len, cap, h1, h3, h4, (by intro e; cases e), fun i hi => ?_⟩
    obtain ⟨cs', hc, hr⟩ := h7 i (by rw [h5]; simp; omega)
    obtain ⟨_, hl, hx⟩ := World.cells?_some hc
    exact ⟨a, cs', rfl, hl, hx, H, enc, n, _, hr⟩
theorem spot_none {w : World} {a : Addr} {v : Value} (h : w.cell? a = some v) : ∃ b o, a = ⟨b, o, none⟩ ∧ b < w.heap.size := by
  have hb := World.block_lt_of_cell? w a h
  obtain ⟨b, o, s⟩ := a
  have : s = none := by simpa using World.cell?_spot h
  subst this
  exact ⟨b, o, rfl, hb⟩
/-- A slice of elements of k cells: the cells of all its elements, one behind the other, and what each element's reading tells. -/
theorem rv_rows {t e : TypeId} {k : Nat} {cs : List Value} (ht : P.underlying t = some (.slice e)) (hk : P.cellsOf e = k) (hk0 : 0 < k) (h : Rv P w t cs) :
    ∃ (A : Option Addr) (n c : Nat) (xs : List (List Value)), cs = [.slice A n c] ∧ n ≤ c ∧ c ≤ maxLen ∧ xs.length = n ∧ (∀ x ∈ xs, x.length = k ∧ Rv P w e x) ∧ Rd w w.heap.size A xs.flatten := by
  obtain ⟨A, n, c, h1, h2, h3, h4, h5⟩ := rv_slice ht h
  rw [hk] at h5
  rcases Nat.eq_zero_or_pos n with h0 | h0
  · subst h0
    exact ⟨A, 0, c, [], h1, h2, h3, rfl, by simp, by simpa using Rd.nil⟩
  · obtain ⟨a0, x0, hA, hl0, hc0, _⟩ := h5 0 h0
    have h00 := hc0 0 hk0
    rw [List.getElem?_eq_getElem (by omega)] at h00
    have hadd0 : ((a0.add (0 * k)).add 0) = a0 := by simp [Addr.add]
    rw [hadd0] at h00
    obtain ⟨b, o, rfl, hb⟩ := spot_none h00
    subst hA
    have h6 : ∀ i : Nat, ∃ xs : List Value, i < n → xs.length = k ∧ (∀ j, j < k → w.cell? ⟨b, o + (i * k + j), none⟩ = xs[j]?) ∧ Rv P w e xs := fun i => by
      by_cases hi : i < n
      · obtain ⟨a, xs, ha, hl, hc, hr⟩ := h5 i hi
        injection ha with ha
        subst ha
        refine ⟨xs, fun _ => ⟨hl, fun j hj => ?_, hr⟩⟩
        have := hc j hj
        have e1 : ((⟨b, o, none⟩ : Addr).add (i * k)).add j = ⟨b, o + (i * k + j), none⟩ := by
          have ea : ∀ (o i : Nat), (⟨b, o, none⟩ : Addr).add i = ⟨b, o + i, none⟩ := fun o i => by unfold Addr.add; split <;> simp_all
          rw [ea, ea, Nat.add_assoc]
        rw [e1] at this
        exact this
      · exact ⟨[], fun h => absurd h hi⟩
    have h7 := Classical.axiomOfChoice h6
    obtain ⟨f, hf⟩ := h7
    have hlen : ∀ m, m ≤ n → (((List.range m).map f).flatten).length = m * k := fun m => by
      induction m with
      | zero => simp
      | succ m ih => intro hm; rw [List.range_succ]; simp [ih (by omega), (hf m (by omega)).1, Nat.add_mul]
    have hget : ∀ m, m ≤ n → ∀ i, (hi : i < (((List.range m).map f).flatten).length) → w.cell? ⟨b, o + i, none⟩ = some (((List.range m).map f).flatten)[i] := fun m => by
      induction m with
      | zero => intro _ i hi; simp at hi
      | succ m ih =>
        intro hm i hi
        have hsp : ((List.range (m + 1)).map f).flatten = ((List.range m).map f).flatten ++ f m := by rw [List.range_succ]; simp
        have hlm := hlen m (by omega)
        have hlm1 := hlen (m + 1) hm
        by_cases hlt : i < m * k
        · have := ih (by omega) i (by omega)
          rw [this]
          congr 1
          have h8 : ((List.range (m + 1)).map f).flatten[i]? = ((List.range m).map f).flatten[i]? := by rw [hsp, List.getElem?_append_left (by omega)]
          rw [List.getElem?_eq_getElem hi, List.getElem?_eq_getElem (by omega)] at h8
          injection h8 with h8
          exact h8.symm
        · rw [hlm1, Nat.add_mul, Nat.one_mul] at hi
          have h9 := (hf m (by omega)).2.1 (i - m * k) (by omega)
          have e2 : o + (m * k + (i - m * k)) = o + i := by omega
          rw [e2] at h9
          rw [h9]
          have h8 : ((List.range (m + 1)).map f).flatten[i]? = (f m)[i - m * k]? := by rw [hsp, List.getElem?_append_right (by omega), hlm]
          rw [← h8, List.getElem?_eq_getElem]
    refine ⟨_, n, c, (List.range n).map f, h1, h2, h3, by simp, fun x hx => ?_, fun i hi => ⟨b, o, rfl, hb, hget n (Nat.le_refl _) i hi⟩⟩
    obtain ⟨i, hi, rfl⟩ := List.mem_map.1 hx
    have := hf i (by simpa using hi)
    exact ⟨this.1, this.2.2⟩
/-- A slice of integers. -/
theorem rv_ints {t e : TypeId} {k : IntKind} {cs : List Value} (ht : P.underlying t = some (.slice e)) (he : P.underlying e = some (.int k)) (hc : P.cellsOf e = 1) (h : Rv P w t cs) :
    ∃ (A : Option Addr) (n c : Nat) (l : List Int), cs = [.slice A n c] ∧ n ≤ c ∧ c ≤ maxLen ∧ l.length = n ∧ (∀ z ∈ l, (Lit.int k z).wf = true) ∧ Rd w w.heap.size A (l.map (Value.int k)) := by
  obtain ⟨A, n, c, xs, h1, h2, h3, h4, h5, h6⟩ := rv_rows ht hc (by omega) h
  have h7 : ∀ ys : List (List Value), (∀ x ∈ ys, x.length = 1 ∧ Rv P w e x) → ∃ l : List Int, l.length = ys.length ∧ (∀ z ∈ l, (Lit.int k z).wf = true) ∧ ys.flatten = l.map (Value.int k) := fun ys => by
    induction ys with
    | nil => intro _; exact ⟨[], rfl, by simp, rfl⟩
    | cons x ys ih =>
      intro hx
      obtain ⟨l, hl1, hl2, hl3⟩ := ih (fun y hy => hx y (by simp [hy]))
      obtain ⟨n, rfl, hn⟩ := rv_int he (hx x (by simp)).2
      exact ⟨n :: l, by simp [hl1], by simpa using ⟨hn, hl2⟩, by simp [hl3]⟩
  obtain ⟨l, hl1, hl2, hl3⟩ := h7 xs h5
  exact ⟨A, n, c, l, h1, h2, h3, by omega, hl2, by rw [← hl3]; exact h6⟩
theorem okWide_array {r : Reach} {base n : Nat} {t e : TypeId} {v : Value} (ht : P.underlying t = some (.array n e)) (h : Value.okWide P w r base t v) : ∃ cs, v = .agg cs ∧ cs.size = P.cellsOf t := by
  simp only [Value.okWide, ht] at h
  obtain ⟨cs, h1, h2, _⟩ := h
  exact ⟨cs, h1, h2⟩
theorem wf_i64 {n : Int} (h : (Lit.int .i64 n).wf = true) : -9223372036854775808 ≤ n ∧ n ≤ 9223372036854775807 := by
  simpa [Lit.wf, IntKind.min, IntKind.max, IntKind.signed, IntKind.bits] using h
theorem wf_u64 {n : Int} (h : (Lit.int .u64 n).wf = true) : 0 ≤ n ∧ n ≤ 18446744073709551615 := by
  simpa [Lit.wf, IntKind.min, IntKind.max, IntKind.signed, IntKind.bits] using h
theorem wf_u8 {n : Int} (h : (Lit.int .u8 n).wf = true) : 0 ≤ n ∧ n ≤ 255 := by
  simpa [Lit.wf, IntKind.min, IntKind.max, IntKind.signed, IntKind.bits] using h
end
end Go.Proofs.YtibmhabipghjlaaGreat
end
section
set_option linter.unusedVariables false
namespace Go.Proofs.YtibmhabipghjlaaGreat
open Go.RowKit
theorem run_maxM {P : Program} {w : World} (ts : Array TypeId) (t : TypeId) (k k' : IntKind) (x y : Int) : (Builtin.max_ ts t #[.int k x, .int k' y]).run P w = .ok (.int k (max x y)) w := by
  rw [run_max_int2]
  congr 2
  split <;> omega
theorem run_minM {P : Program} {w : World} (ts : Array TypeId) (t : TypeId) (k k' : IntKind) (x y : Int) : (Builtin.min_ ts t #[.int k x, .int k' y]).run P w = .ok (.int k (min x y)) w := by
  rw [run_min_int2]
  congr 2
  split <;> omega
theorem Bk.same {w w' : World} {g : Nat} {t : TypeId} {cs : Array Value} (h : Bk w g t cs) (e : w'.heap[g]? = w.heap[g]?) : Bk w' g t cs := e.trans h
abbrev xfV (k : Int) (A : Option Addr) (n cp : Nat) : Value := .agg #[.int .i64 k, .slice A n cp]
/-- Nothing is asked of the map here. -/
def MapFn (lo hi : Nat) (w : World) (p : Option Addr) (F G E : Int → Int → Int → Int) : Prop := True
end Go.Proofs.YtibmhabipghjlaaGreat
end
section
set_option linter.unusedVariables false
namespace Go.Proofs.YtibmhabipghjlaaGreat
open Go.RowKit
attribute [local go_sem high] run_maxM run_minM
/-- The places that a rectangle and a whole image have. -/
def bothR (a b c d e f g h : Int) : Int × Int × Int × Int :=
  if rc_emptyR a b c d ∨ rc_emptyR e f g h ∨ rc_emptyR (max a e) (max b f) (min c g) (min d h) then (0, 0, 0, 0) else (max a e, max b f, min c g, min d h)
abbrev rcv (p : Int × Int × Int × Int) : Value := rc_rect4 p.1 p.2.1 p.2.2.1 p.2.2.2
set_option maxRecDepth 100000 in
set_option maxHeartbeats 4000000 in
theorem both_any (a b c d e f g h : Int) (w : World) : Calls Tryz.prog 65 #[rc_rect4 a b c d, rc_rect4 e f g h] w fun e' w' => e' = .returned (rcv (bothR a b c d e f g h)) ∧ Below w.heap.size w w' := by
  have hL := (((Lie.start w).alloc (rc_rectA a b c d) 84).alloc (rc_rectA e f g h) 84).alloc (rc_rectA 0 0 0 0) 84
  simp only [World.size_alloc] at hL
  have k2 := hL.k 2 (by simp)
  have k3 := hL.k 1 (by simp)
  have k4 := hL.k 0 (by simp)
  simp only [List.getElem_cons_zero, List.getElem_cons_succ] at k2 k3 k4
  have hE1 := fun w' => rc_empty_any a b c d w'
  have hE2 := fun w' => rc_empty_any e f g h w'
  by_cases h1 : rc_emptyR a b c d
  · have HE : Hid (bothR a b c d e f g h = (0, 0, 0, 0)) := by unfold bothR Hid; rw [if_pos (.inl h1)]
    rw [show decide (rc_emptyR a b c d) = true from decide_eq_true h1] at hE1
    clear h1 hE2
    go_enter Tryz.func65, Tryz.ntmps65
    go_wp2_with (first
      | (refine rc_ldRect rfl _ rfl k2 rfl ?_)
      | (go_at_call 67; (with_reducible refine (hE1 _).mono ?_); rintro e' w1 ⟨rfl, hb1⟩; have hL1 := hL.nx hb1; have k41 := k4.nx hb1)
      | (refine rc_stRect rfl _ _ rfl k41 rfl rfl rfl ?_; intro w2 k42 hg2 hs2))
    refine bodyPost_ret (rc_res_rect rfl k42 rfl) rfl ?_
    exact ⟨by rw [HE.out], below_of_gb hL1.bel hg2 (by omega) hL1.sz⟩
  · rw [show decide (rc_emptyR a b c d) = false from decide_eq_false h1] at hE1
    by_cases h2 : rc_emptyR e f g h
    · have HE : Hid (bothR a b c d e f g h = (0, 0, 0, 0)) := by unfold bothR Hid; rw [if_pos (.inr (.inl h2))]
      rw [show decide (rc_emptyR e f g h) = true from decide_eq_true h2] at hE2
      clear h1 h2
      go_enter Tryz.func65, Tryz.ntmps65
      go_wp2_with (first
        | (refine rc_ldRect rfl _ rfl k2 rfl ?_)
        | (refine rc_ldRect rfl _ rfl k31 rfl ?_)
        | (go_at_call 67; (with_reducible refine (hE1 _).mono ?_); rintro e' w1 ⟨rfl, hb1⟩; have hL1 := hL.nx hb1; have k31 := k3.nx hb1; have q31 := k31.cell4; obtain ⟨g30, g31, g32, g33⟩ := q31)
        | (go_at_call 67; (with_reducible refine (hE2 _).mono ?_); rintro e' w2 ⟨rfl, hb2⟩; have hL2 := hL1.nx hb2; have k42 := (k4.nx hb1).nx hb2)
        | (refine rc_stRect rfl _ _ rfl k42 rfl rfl rfl ?_; intro w3 k43 hg3 hs3))
      refine bodyPost_ret (rc_res_rect rfl k43 rfl) rfl ?_
      exact ⟨by rw [HE.out], below_of_gb hL2.bel hg3 (by omega) hL2.sz⟩
    · rw [show decide (rc_emptyR e f g h) = false from decide_eq_false h2] at hE2
      have HE : Hid (bothR a b c d e f g h = if rc_emptyR (max a e) (max b f) (min c g) (min d h) then (0, 0, 0, 0) else (max a e, max b f, min c g, min d h)) := by
        unfold bothR Hid
        by_cases h3 : rc_emptyR (max a e) (max b f) (min c g) (min d h)
        · rw [if_pos (.inr (.inr h3)), if_pos h3]
        · rw [if_neg (by rintro (h | h | h) <;> contradiction), if_neg h3]
      have hN1 := fun h3 w' => rc_norm_e (max a e) (max b f) (min c g) (min d h) w' h3
      have hN2 := fun h3 w' => rc_norm_ok (max a e) (max b f) (min c g) (min d h) w' h3
      clear h1 h2
      by_cases h3 : rc_emptyR (max a e) (max b f) (min c g) (min d h)
      · replace hN1 := hN1 h3
        replace HE : Hid (bothR a b c d e f g h = (0, 0, 0, 0)) := by have := HE.out; rw [if_pos h3] at this; exact this
        clear h3 hN2
        obtain ⟨c20, c21, c22, c23⟩ := k2.cell4
        obtain ⟨c30, c31, c32, c33⟩ := k3.cell4
        go_enter Tryz.func65, Tryz.ntmps65
        go_wp2_with (first
          | (refine rc_ldRect rfl _ rfl k2 rfl ?_)
          | (refine rc_ldRect rfl _ rfl k31 rfl ?_)
          | (go_at_call 67; (with_reducible refine (hE1 _).mono ?_); rintro e' w1 ⟨rfl, hb1⟩; have hL1 := hL.nx hb1; have k31 := k3.nx hb1; have q31 := k31.cell4; obtain ⟨g30, g31, g32, g33⟩ := q31)
          | (go_at_call 67; (with_reducible refine (hE2 _).mono ?_); rintro e' w2 ⟨rfl, hb2⟩; have hL2 := hL1.nx hb2; have k22 := (k2.nx hb1).nx hb2; have k32 := (k3.nx hb1).nx hb2; have k42 := (k4.nx hb1).nx hb2; have q2 := k22.cell4; have q3 := k32.cell4; obtain ⟨e20, e21, e22, e23⟩ := q2; obtain ⟨e30, e31, e32, e33⟩ := q3)
          | (go_at_call 96; (with_reducible refine (hN1 _).mono ?_); rintro e' w3 ⟨rfl, hb3⟩; have hL3 := hL2.nx hb3; have k43 := k42.nx hb3)
          | (refine rc_stRect rfl _ _ rfl k43 rfl rfl rfl ?_; intro w5 k45 hg5 hs5))
        refine bodyPost_ret (rc_res_rect rfl k45 rfl) rfl ?_
        exact ⟨by rw [HE.out], below_of_gb hL3.bel hg5 (by omega) hL3.sz⟩
      · replace hN2 := hN2 h3
        replace HE : Hid (bothR a b c d e f g h = (max a e, max b f, min c g, min d h)) := by have := HE.out; rw [if_neg h3] at this; exact this
        clear h3 hN1
        obtain ⟨c20, c21, c22, c23⟩ := k2.cell4
        obtain ⟨c30, c31, c32, c33⟩ := k3.cell4
        go_enter Tryz.func65, Tryz.ntmps65
        go_wp2_with (first
          | (refine rc_ldRect rfl _ rfl k2 rfl ?_)
          | (refine rc_ldRect rfl _ rfl k31 rfl ?_)
          | (go_at_call 67; (with_reducible refine (hE1 _).mono ?_); rintro e' w1 ⟨rfl, hb1⟩; have hL1 := hL.nx hb1; have k31 := k3.nx hb1; have q31 := k31.cell4; obtain ⟨g30, g31, g32, g33⟩ := q31)
          | (go_at_call 67; (with_reducible refine (hE2 _).mono ?_); rintro e' w2 ⟨rfl, hb2⟩; have hL2 := hL1.nx hb2; have k22 := (k2.nx hb1).nx hb2; have k32 := (k3.nx hb1).nx hb2; have k42 := (k4.nx hb1).nx hb2; have q2 := k22.cell4; have q3 := k32.cell4; obtain ⟨e20, e21, e22, e23⟩ := q2; obtain ⟨e30, e31, e32, e33⟩ := q3)
          | (go_at_call 96; (with_reducible refine (hN2 _).mono ?_); rintro e' w3 ⟨rfl, hb3⟩; have hL3 := hL2.nx hb3; have k43 := k42.nx hb3)
          | (refine rc_stRect rfl _ _ rfl k43 rfl rfl rfl ?_; intro w5 k45 hg5 hs5))
        refine bodyPost_ret (rc_res_rect rfl k45 rfl) rfl ?_
        exact ⟨by rw [HE.out], below_of_gb hL3.bel hg5 (by omega) hL3.sz⟩
end Go.Proofs.YtibmhabipghjlaaGreat
end
section
set_option linter.unusedVariables false
namespace Go.Proofs.YtibmhabipghjlaaGreat
open Go.RowKit
set_option maxHeartbeats 1000000 in
theorem rc_has_any (a b c d x y : Int) (w : World) : Calls Tryz.prog 98 #[rc_rect4 a b c d, .int .i64 x, .int .i64 y] w fun e w' => e = .returned (.bool (rc_hasB a b c d x y)) ∧ Below w.heap.size w w' := by
  by_cases he : rc_emptyR a b c d
  · have hd' : decide (rc_emptyR a b c d) = true := decide_eq_true he
    have HE := Lib.hid he
    clear he
    go_enter Tryz.func98, Tryz.ntmps98
    go_wp2_with (go_at_call 67; (with_reducible refine (rc_empty_any _ _ _ _ _).mono ?_); rintro e w' ⟨rfl, hb⟩; have hcb := bcell hb; have hb1 := rc_bl_alloc hb; have hz1 := hb1.size)
    go_returns
    exact ⟨ret_bool (by rw [rc_hasB_e HE.out]), hb1⟩
  · have hd' : decide (rc_emptyR a b c d) = false := decide_eq_false he
    have HE := Lib.hid he
    clear he
    go_enter Tryz.func98, Tryz.ntmps98
    go_wp2_with (go_at_call 67; (with_reducible refine (rc_empty_any _ _ _ _ _).mono ?_); rintro e w' ⟨rfl, hb⟩; have hcb := bcell hb; have hb1 := rc_bl_alloc hb; have hz1 := hb1.size)
    all_goals
      go_returns
      refine ⟨ret_bool ?_, hb1⟩
      have hb2 := HE.out
      clear hcb hb
      first
        | (rw [rc_hasB_yes hb2 (by omega) (by omega) (by omega) (by omega)]; done)
        | (rw [rc_hasB_no (by omega)]; done)
        | (rw [rc_hasB_yes hb2 (by omega) (by omega) (by omega) (by omega)]; simp; omega)
        | (rw [rc_hasB_no (by omega)]; simp; omega)
        | (by_cases h4 : y < d; (rw [rc_hasB_yes hb2 (by omega) (by omega) (by omega) (by omega)]; simp [h4]); (rw [rc_hasB_no (by omega)]; simp [h4]; try omega))

theorem eq4_bool (a b c d e f g h : Int) : decide ((a, b, c, d) = (e, f, g, h)) = ((a == e) && ((b == f) && ((c == g) && (d == h)))) := by
  by_cases h1 : a = e <;> by_cases h2 : b = f <;> by_cases h3 : c = g <;> by_cases h4 : d = h <;> simp [h1, h2, h3, h4]
theorem eql_rect (a b c d e f g h : Int) (w : World) : (binOp .eql 84 (rc_rect4 a b c d) (rc_rect4 e f g h)).run Tryz.prog w = .ok (.bool (decide ((a, b, c, d) = (e, f, g, h)))) w := by
  rw [eq4_bool]
  simp [go_sem, Tryz.underlying84]
  by_cases h1 : a = e <;> by_cases h2 : b = f <;> by_cases h3 : c = g <;> by_cases h4 : d = h <;> simp [h1, h2, h3, h4]
set_option maxRecDepth 100000 in
set_option maxHeartbeats 4000000 in
theorem gwhole_any (W H TW TH : Int) (w : World) : Calls Tryz.prog 66 #[grV W H TW TH] w fun e w' => e = .returned (rc_rect4 0 0 W H) ∧ Below w.heap.size w w' := by
  have hL := ((Lie.start w).alloc (grA W H TW TH) 71).alloc (rc_rectA 0 0 0 0) 84
  simp only [World.size_alloc] at hL
  have k0 : Bk _ w.heap.size 71 (grA W H TW TH) := hL.k 1 (by simp)
  have hK : Bk _ (w.heap.size + 1) 84 (rc_rectA 0 0 0 0) := hL.k 0 (by simp)
  obtain ⟨c0, c1, c2, c3⟩ := k0.cell4
  have hb := hL.bel
  go_enter Tryz.func66, Tryz.ntmps66
  go_wp2_with (refine stB (ty := 84) (cells := rc_rectA 0 0 W H) rfl _ _ rfl hK rfl rfl rc_rect_size rfl (by simp [Value.oneCell']) ?_; intro w' hK' hg' _)
  refine bodyPost_ret (res_cell rfl hK' rfl Tryz.underlying84 rfl rc_rect_size) rfl ?_
  exact ⟨rfl, below_of_gb hb hg' (by omega) hb.size⟩
/-- The tile that has a place. -/
def tlI (W TW TH x y : Int) : Int := y / TH * grN W TW + x / TW
theorem tl_bd {W H TW TH x y : Int} (h0 : grC W H TW TH = 0) (hx : 0 ≤ x ∧ x < W) (hy : 0 ≤ y ∧ y < H) : (0 ≤ x / TW ∧ x / TW < grN W TW) ∧ (0 ≤ y / TH ∧ y / TH < grN H TH) ∧ 0 ≤ y / TH * grN W TW ∧ y / TH * grN W TW ≤ 36864 * 36864 := by
  obtain ⟨hW, hH, hTW, hTH⟩ := grC_zero.1 h0
  obtain ⟨n0, n1, _⟩ := grN_bd hW hTW
  obtain ⟨m0, m1, _⟩ := grN_bd hH hTH
  have a0 : 0 ≤ x / TW := Int.ediv_nonneg (by omega) (by omega)
  have b0 : 0 ≤ y / TH := Int.ediv_nonneg (by omega) (by omega)
  have a1 : x / TW < grN W TW := by
    unfold grN
    rw [Int.lt_iff_add_one_le, Int.le_ediv_iff_mul_le (by omega), Int.add_mul]
    have := Int.ediv_mul_le x (show TW ≠ 0 by omega)
    omega
  have b1 : y / TH < grN H TH := by
    unfold grN
    rw [Int.lt_iff_add_one_le, Int.le_ediv_iff_mul_le (by omega), Int.add_mul]
    have := Int.ediv_mul_le y (show TH ≠ 0 by omega)
    omega
  exact ⟨⟨a0, a1⟩, ⟨b0, b1⟩, Int.mul_nonneg b0 (by omega), Int.mul_le_mul (by omega) n1 (by omega) (by omega)⟩
theorem rc_ne {W H TW TH : Int} (h0 : grC W H TW TH = 0) : ¬ rc_emptyR 0 0 W H := by
  obtain ⟨hW, hH, _⟩ := grC_zero.1 h0
  intro h
  rcases h with h | h | h
  · exact h ⟨⟨by omega, by omega⟩, ⟨by omega, by omega⟩, ⟨by omega, by omega⟩, ⟨by omega, by omega⟩⟩
  · omega
  · omega
set_option maxRecDepth 100000 in
set_option maxHeartbeats 8000000 in
theorem gof_in (W H TW TH x y : Int) (w : World) (h0 : grC W H TW TH = 0) (hx : 0 ≤ x ∧ x < W) (hy : 0 ≤ y ∧ y < H) :
    Calls Tryz.prog 68 #[grV W H TW TH, .int .i64 x, .int .i64 y] w fun e w' => e = .returned (.tuple #[.int .i64 (tlI W TW TH x y), .bool true]) ∧ Below w.heap.size w w' := by
  obtain ⟨⟨a0, a1⟩, ⟨b0, b1⟩, c0, c1⟩ := tl_bd h0 hx hy
  obtain ⟨hW, hH, hTW, hTH⟩ := grC_zero.1 h0
  obtain ⟨n0, n1, _⟩ := grN_bd hW hTW
  obtain ⟨m0, m1, _⟩ := grN_bd hH hTH
  have hH1 := rc_hasB_yes (rc_ne h0) hx.1 hx.2 hy.1 hy.2
  have hL := (Lie.start w).alloc (grA W H TW TH) 71
  have hK : Bk (w.alloc (.cells (grA W H TW TH) 71)) w.heap.size 71 (grA W H TW TH) := hL.k 0 (by simp)
  have hR := fun w' => gright_any W H TW TH w'
  rw [h0] at hR
  have hWh := fun w' => gwhole_any W H TW TH w'
  have hHa := fun w' => rc_has_any 0 0 W H x y w'
  rw [hH1] at hHa
  have hC := fun w' => gcols_any W H TW TH w' h0
  have e1 : Int.tdiv y TH = y / TH := Int.tdiv_eq_ediv_of_nonneg (by omega)
  have e2 : Int.tdiv x TW = x / TW := Int.tdiv_eq_ediv_of_nonneg (by omega)
  have q1 : ¬ (TH = 0) := by omega
  have q2 : ¬ (TW = 0) := by omega
  have q3 : (TH == -1) = false := by simp; omega
  have q4 : (TW == -1) = false := by simp; omega
  have q5 : (TH == 0) = false := by simp; omega
  have q6 : (TW == 0) = false := by simp; omega
  have HT : Hid (tlI W TW TH x y = y / TH * grN W TW + x / TW) := rfl
  have bY : y / TH ≤ 36864 := by omega
  have bX : x / TW ≤ 36864 := by omega
  clear h0 hH1 hW hH n0 m0 m1 b1 a1 n1
  generalize y / TH = Y at *
  generalize x / TW = X at *
  generalize grN W TW = N at *
  obtain ⟨p, hp⟩ : ∃ p, Y * N = p := ⟨_, rfl⟩
  rw [hp] at c0 c1
  have w1 : IntKind.i64.wrap (Y * N) = p := by rw [IntWalk.i64_in _ ⟨by omega, by omega⟩]; exact hp
  have w2 : IntKind.i64.wrap (p + X) = p + X := IntWalk.i64_in _ ⟨by omega, by omega⟩
  have w3 : IntKind.i64.wrap Y = Y := IntWalk.i64_in _ ⟨by omega, by omega⟩
  have w4 : IntKind.i64.wrap X = X := IntWalk.i64_in _ ⟨by omega, by omega⟩
  go_enter Tryz.func68, Tryz.ntmps68
  go_upto_region 3 with (first
    | (refine ldB rfl _ _ rfl hK rfl Tryz.underlying71 rfl gr_size ?_)
    | (go_at_call 64; (with_reducible refine (hR _).mono ?_); rintro e w1 ⟨rfl, hb1⟩; have hL1 := hL.nx hb1; have hK1 := hK.nx hb1; obtain ⟨c0', c1', c2', c3'⟩ := hK1.cell4)
    | (refine ldB rfl _ _ rfl hK1 rfl Tryz.underlying71 rfl gr_size ?_)
    | (go_at_call 66; (with_reducible refine (hWh _).mono ?_); rintro e w2 ⟨rfl, hb2⟩; have hL2 := hL1.nx hb2; have hK2 := hK1.nx hb2)
    | (go_at_call 98; (with_reducible refine (hHa _).mono ?_); rintro e w3 ⟨rfl, hb3⟩; have hL3 := hL2.nx hb3; have hK3 := hK2.nx hb3))
  obtain ⟨d0, d1, d2, d3⟩ := hK3.cell4
  have r0 := fun (n : Nat) (os : Array Obj) => cell_regrown d0 n os
  have r1 := fun (n : Nat) (os : Array Obj) => cell_regrown d1 n os
  have r2 := fun (n : Nat) (os : Array Obj) => cell_regrown d2 n os
  have r3 := fun (n : Nat) (os : Array Obj) => cell_regrown d3 n os
  clear hR hWh hHa hL hK hL1 hK1 hL2 hK2 hb1 hb2 hb3 c0' c1' c2' c3' d0 d1 d2 d3 hK3
  refine wp_region_quiet_below (by kernel_rfl) (by kernel_rfl) ?_
  repeat (first
    | go_big_quiet_step (with_reducible exact quiet_below (hC _))
    | quiet_step (with_reducible exact quiet_below (hC _)))
  refine wpQuiet_nil ?_
  intro _ hw'
  obtain ⟨⟨d9, os⟩, hw''⟩ := hw'
  subst hw''
  have hLx := hL3.nx (below_regrown w3 d9 os)
  generalize Go.Sort.grow (redrawn w3 d9) os = wx at *
  go_wp2_with fail
  go_returns
  exact ⟨by rw [HT.out, hp]; rfl, hLx.bel⟩
set_option maxRecDepth 100000 in
set_option maxHeartbeats 8000000 in
theorem gof_out (W H TW TH x y : Int) (w : World) (h0 : grC W H TW TH = 0) (ho : ¬ (0 ≤ x ∧ x < W ∧ 0 ≤ y ∧ y < H)) :
    Calls Tryz.prog 68 #[grV W H TW TH, .int .i64 x, .int .i64 y] w fun e w' => e = .returned (.tuple #[.int .i64 0, .bool false]) ∧ Below w.heap.size w w' := by
  have hH1 : rc_hasB 0 0 W H x y = false := rc_hasB_no ho
  have hL := (Lie.start w).alloc (grA W H TW TH) 71
  have hK : Bk (w.alloc (.cells (grA W H TW TH) 71)) w.heap.size 71 (grA W H TW TH) := hL.k 0 (by simp)
  have hR := fun w' => gright_any W H TW TH w'
  rw [h0] at hR
  have hWh := fun w' => gwhole_any W H TW TH w'
  have hHa := fun w' => rc_has_any 0 0 W H x y w'
  rw [hH1] at hHa
  clear h0 hH1 ho
  go_enter Tryz.func68, Tryz.ntmps68
  go_wp2_with (first
    | (refine ldB rfl _ _ rfl hK rfl Tryz.underlying71 rfl gr_size ?_)
    | (go_at_call 64; (with_reducible refine (hR _).mono ?_); rintro e w1 ⟨rfl, hb1⟩; have hL1 := hL.nx hb1; have hK1 := hK.nx hb1; obtain ⟨c0', c1', c2', c3'⟩ := hK1.cell4)
    | (go_at_call 66; (with_reducible refine (hWh _).mono ?_); rintro e w2 ⟨rfl, hb2⟩; have hL2 := hL1.nx hb2)
    | (go_at_call 98; (with_reducible refine (hHa _).mono ?_); rintro e w3 ⟨rfl, hb3⟩; have hL3 := hL2.nx hb3))
  go_returns
  exact ⟨rfl, hL3.bel⟩
set_option maxRecDepth 100000 in
set_option maxHeartbeats 8000000 in
theorem gof_zero (x y : Int) (w : World) : Calls Tryz.prog 68 #[grV 0 0 0 0, .int .i64 x, .int .i64 y] w fun e w' => e = .returned (.tuple #[.int .i64 0, .bool false]) ∧ Below w.heap.size w w' := by
  have hL := (Lie.start w).alloc (grA 0 0 0 0) 71
  have hK : Bk (w.alloc (.cells (grA 0 0 0 0) 71)) w.heap.size 71 (grA 0 0 0 0) := hL.k 0 (by simp)
  have hR := fun w' => gright_any 0 0 0 0 w'
  rw [show grC 0 0 0 0 = 12 by decide] at hR
  go_enter Tryz.func68, Tryz.ntmps68
  go_wp2_with (first
    | (refine ldB rfl _ _ rfl hK rfl Tryz.underlying71 rfl gr_size ?_)
    | (go_at_call 64; (with_reducible refine (hR _).mono ?_); rintro e w1 ⟨rfl, hb1⟩; have hL1 := hL.nx hb1))
  go_returns
  exact ⟨rfl, hL1.bel⟩
/-- Where a tile begins. -/
def tlX (W TW i : Int) : Int := i % grN W TW * TW
def tlY (W TW TH i : Int) : Int := i / grN W TW * TH
theorem grN_mul {W T : Int} (hT : 1 ≤ T) : grN W T * T ≤ W + T - 1 := by
  unfold grN
  exact Int.ediv_mul_le _ (by omega)
theorem tl_xy {W H TW TH i : Int} (h0 : grC W H TW TH = 0) (hi : 0 ≤ i ∧ i < grN W TW * grN H TH) : (0 ≤ tlX W TW i ∧ tlX W TW i < W) ∧ (0 ≤ tlY W TW TH i ∧ tlY W TW TH i < H) ∧ 0 ≤ i % grN W TW ∧ i % grN W TW < grN W TW ∧ 0 ≤ i / grN W TW ∧ i / grN W TW < grN H TH := by
  obtain ⟨hW, hH, hTW, hTH⟩ := grC_zero.1 h0
  obtain ⟨n0, n1, _⟩ := grN_bd hW hTW
  obtain ⟨m0, m1, _⟩ := grN_bd hH hTH
  have r0 := Int.emod_nonneg i (show grN W TW ≠ 0 by omega)
  have r1 := Int.emod_lt_of_pos i (show 0 < grN W TW by omega)
  have d0 : 0 ≤ i / grN W TW := Int.ediv_nonneg hi.1 (by omega)
  have d1 : i / grN W TW < grN H TH := Int.ediv_lt_of_lt_mul (by omega) (by rw [Int.mul_comm]; exact hi.2)
  have e1 := grN_mul (W := W) hTW.1
  have e2 := grN_mul (W := H) hTH.1
  refine ⟨⟨Int.mul_nonneg r0 (by omega), ?_⟩, ⟨Int.mul_nonneg d0 (by omega), ?_⟩, r0, r1, d0, d1⟩
  · have : (i % grN W TW + 1) * TW ≤ grN W TW * TW := Int.mul_le_mul_of_nonneg_right (by omega) (by omega)
    rw [Int.add_mul] at this
    unfold tlX; omega
  · have : (i / grN W TW + 1) * TH ≤ grN H TH * TH := Int.mul_le_mul_of_nonneg_right (by omega) (by omega)
    rw [Int.add_mul] at this
    unfold tlY; omega
theorem both_tl {W H TW TH X Y : Int} (h0 : grC W H TW TH = 0) (hX : 0 ≤ X ∧ X < W) (hY : 0 ≤ Y ∧ Y < H) : bothR X Y (X + TW) (Y + TH) 0 0 W H = (X, Y, min (X + TW) W, min (Y + TH) H) := by
  obtain ⟨hW, hH, hTW, hTH⟩ := grC_zero.1 h0
  unfold bothR
  rw [if_neg]
  · rw [show max X 0 = X by omega, show max Y 0 = Y by omega]
  · intro h
    rcases h with h | h | h
    · rcases h with h | h | h
      · exact h ⟨⟨by omega, by omega⟩, ⟨by omega, by omega⟩, ⟨by omega, by omega⟩, ⟨by omega, by omega⟩⟩
      · omega
      · omega
    · exact rc_ne h0 h
    · rcases h with h | h | h
      · exact h ⟨⟨by omega, by omega⟩, ⟨by omega, by omega⟩, ⟨by omega, by omega⟩, ⟨by omega, by omega⟩⟩
      · omega
      · omega
end Go.Proofs.YtibmhabipghjlaaGreat
end
