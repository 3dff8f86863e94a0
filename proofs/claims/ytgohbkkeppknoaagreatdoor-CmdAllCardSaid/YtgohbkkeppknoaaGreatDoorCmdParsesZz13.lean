/- Several texts in one: A region that draws its order: operations that read, and calls that lay blocks of their own, in whatever order; then a tail, one by one. A region that draws its order: its head in whatever order, each operation quiet; what stands behind it comes after the head, in whatever order. -/
import Derived.Test.YtgohbkkeppknoaaGreatDoorCmdParsesZz1
import Derived.StillTail
import Derived.Lib.QuietBelow
section
set_option linter.unusedVariables false
namespace Go.Proofs.YtgohbkkeppknoaaGreatDoor
open Go.RowKit Go.Sort
section
variable {P : Program} {ops : Array Oper} {md : Region.Mode} {C : World → Prop}
/-- f operations of the first n, in whatever order, each quiet in the class; then L. -/
def HeadQ (P : Program) (md : Region.Mode) (ops : Array Oper) (C : World → Prop) (n : Nat) (L : Array Bool → Act → Prop) : Nat → Array Bool → Act → Prop
  | 0, ls, a => L ls a
  | f + 1, ls, a => Region.ready md ops ls ≠ [] ∧ ∀ j ∈ Region.ready md ops ls, j < n ∧ qOp P ops C j (HeadQ P md ops C n L f (ls.setIfInBounds j true)) a
/-- Nobody who could come up before operation i touches its slots. -/
def FreeAt (md : Region.Mode) (ops : Array Oper) (ls : Array Bool) (i : Nat) (oi : Oper) : Prop :=
  ∀ j oj, ops[j]? = some oj → j ≠ i → ls.getD j true = false → (∀ e ∈ oj.after, Region.binds md e = true → e.on ≠ i) → oi.apart ops oj = true
theorem FreeAt.set {ls : Array Bool} {i j : Nat} {oi : Oper} (h : FreeAt md ops ls i oi) (hj : ls.getD j true = false) : FreeAt md ops (ls.setIfInBounds j true) i oi := by
  intro k ok hk hki hun hno
  rcases Nat.decEq j k with hne | heq
  · exact h k ok hk hki (by rw [getD_set_ne true hne] at hun; exact hun) hno
  · subst heq
    exact h j ok hk hki hj hno
theorem HeadQ.run {n g : Nat} {L : Array Bool → Act → Prop} {Q' : Exit → Act → World → Prop} (hL : ∀ ls a w, C w → L ls a → wpAny P md ops Q' g ls a w) (f : Nat) : ∀ (ls : Array Bool) (a : Act) (w : World), C w → HeadQ P md ops C n L f ls a → wpAny P md ops Q' (f + g) ls a w := by
  induction f with
  | zero => intro ls a w hw h; rw [Nat.zero_add]; exact hL ls a w hw h
  | succ f ih =>
    intro ls a w hw h
    rw [Nat.succ_add]
    exact ⟨fun h0 => absurd h0 h.1, fun i hi => wpOp_of_qOp hw (fun a' w' hw' h' => ih _ a' w' hw' h') (h.2 i hi).2⟩
/-- What holds of the operation that is taken first. -/
structure Takes (md : Region.Mode) (ops : Array Oper) (n i : Nat) (oi : Oper) (L : Array Bool → Act → Prop) : Prop where
  at_ : ops[i]? = some oi
  sel : Region.noSelect ops = true
  low : i < n
  wait : ∀ ls, HeadInv md ops n ls → ls.getD i true = false → ∀ j ∈ Region.ready md ops ls, j < n
  done : ∀ ls a, L ls a → ∀ j ∈ Region.ready md ops ls, n ≤ j
theorem Takes.head {n i : Nat} {oi : Oper} {L : Array Bool → Act → Prop} (t : Takes md ops n i oi L) {ls : Array Bool} (inv : HeadInv md ops n ls) (hr : i ∈ Region.ready md ops ls) {j : Nat} (hj : j ∈ Region.ready md ops ls) : j < n :=
  t.wait ls inv (mem_ready.1 hr).1 j hj
theorem HeadQ.first {n i : Nat} {oi : Oper} {v : Value} {L : Array Bool → Act → Prop} (t : Takes md ops n i oi L) : ∀ (f : Nat) (ls : Array Bool) (a : Act), HeadInv md ops n ls → FreeAt md ops ls i oi → i ∈ Region.ready md ops ls → YieldsIn P ops C oi v a →
    HeadQ P md ops C n L f (ls.setIfInBounds i true) (a.put oi.dst v) → HeadQ P md ops C n L (f + 1) ls a := by
  intro f
  induction f with
  | zero =>
    intro ls a inv hfree hr hy H
    refine ⟨List.ne_nil_of_mem hr, fun j hj => ⟨t.head inv hr hj, ?_⟩⟩
    rcases Nat.decEq j i with hne | heq
    · exact absurd (t.done _ _ H j (ready_mono hj hne)) (by have := t.head inv hr hj; omega)
    · subst heq
      exact hy.qOp t.at_ H
  | succ f ih =>
    intro ls a inv hfree hr hy H
    refine ⟨List.ne_nil_of_mem hr, fun j hj => ⟨t.head inv hr hj, ?_⟩⟩
    rcases Nat.decEq j i with hne | heq
    · obtain ⟨hun, oj, hoj, hall⟩ := mem_ready.1 hj
      have hno : ∀ e ∈ oj.after, Region.binds md e = true → e.on ≠ i := fun e he hb h => by
        have h1 := hall e he hb
        rw [h, getD_both (mem_ready.1 hr).1] at h1
        exact Bool.noConfusion h1
      have hsel := Region.noSelect_spec t.sel
      have hput := qOp_put hoj (hfree j oj hoj hne hun hno) (fun cs b => hsel i oi cs b t.at_) (fun cs b => hsel j oj cs b hoj) hy (H.2 j (ready_mono hj hne)).2
      refine qOp_mono (fun a' h => ih _ a' (inv.set hj (t.head inv hr hj)) (hfree.set hun) (ready_mono hr (Ne.symm hne)) h.1 ?_) hput
      rw [Array.setIfInBounds_comm _ _ hne]
      exact h.2
    · subst heq
      exact hy.qOp t.at_ H
theorem HeadQ.lex {n g : Nat} {Lq : Act → Prop} (hsel : Region.noSelect ops = true) (hs : Region.sinkB md ops n = true) (hc : Region.chainB md ops n = true) (hn : n < ops.size) (l : List Oper) :
    ∀ (k : Nat) (ls : Array Bool) (a : Act), (∀ j, j < l.length → l[j]? = ops[k + j]?) → k + l.length = n → HeadInv md ops n ls → Region.lexHead md ops g l.length k ls = true → wpQuiet P ops C Lq l a →
      HeadQ P md ops C n (fun ls' a' => Region.seqB md ops g n ls' = true ∧ Lq a') l.length ls a := by
  induction l with
  | nil =>
    intro k ls a _ hk _ hB h
    obtain rfl : k = n := by simpa using hk
    exact ⟨hB, h⟩
  | cons o l ih =>
    intro k ls a hl hk inv hB h
    have ho : ops[k]? = some o := by have := hl 0 (by simp); simpa using this.symm
    rw [List.length_cons] at hk hB
    simp only [Region.lexHead, Bool.and_eq_true] at hB
    have hkn : k < n := by omega
    have hr : k ∈ Region.ready md ops ls := by simpa using hB.1.1
    obtain ⟨v, hy, hK⟩ := yieldsIn_of_qOp (K := wpQuiet P ops C Lq l) ho (by unfold qOp; simp only [ho]; exact h)
    exact HeadQ.first ⟨ho, hsel, hkn, fun ls' inv' hun j hj => (Nat.lt_or_ge j n).elim id (fun h => absurd hj (tail_waits hs hc hn inv' _ k rfl hkn hun j h)), fun ls' a' hL => seqB_ready hL.1⟩ l.length ls a inv (Region.free_spec ho hB.1.2) hr hy
      (ih (k + 1) _ _ (fun j hj => by have := hl (j + 1) (by simp; omega); rw [show k + 1 + j = k + (j + 1) by omega, ← this]; rfl) (by omega) (inv.set hr hkn) hB.2 hK)
end
/-- Some blocks more, some draws more. -/
def Cl (w : World) (w' : World) : Prop := ∃ p : Regrown, w' = grow (redrawn w p.d) p.os
theorem wp_region_quiet_tail {P : Program} {id : Nat} {Q : Exit → Act → World → Prop} {a : Act} {w : World} {l : List Oper} (n : Nat) (hm : P.follows .mixedOrders = true) (hB : Region.lexTailB .any l.toArray n = true)
    (h : wpQuiet P l.toArray (fun w' => ∃ p : Regrown, w' = grow (redrawn w p.d) p.os) (fun a' => ∀ w', (∃ p : Regrown, w' = grow (redrawn w p.d) p.os) → wpList P l.toArray Q (l.drop n) a' w') (l.take n) a) : (Code.region id l.toArray true).wp P Q a w := by
  simp only [Region.lexTailB, Bool.and_eq_true, decide_eq_true_eq] at hB
  obtain ⟨⟨⟨⟨hsel, hn⟩, hs⟩, hc⟩, hlex⟩ := hB
  have hn2 : n < l.length := by simpa using hn
  have e1 : (l.take n).length = n := by rw [List.length_take]; omega
  have e2 : (l.drop n).length = l.toArray.size - n := by simp
  have hw : Cl w { w with drawn := w.drawn + 1 } := ⟨⟨w.drawn + 1, #[]⟩, by rw [grow_empty]; rfl⟩
  have inv : HeadInv .any l.toArray n (Array.replicate l.toArray.size false) :=
    ⟨by simp, fun j oj _ hl => (by rw [getD_replicate_false] at hl; cases hl), fun t _ ht => getD_in (by simpa using ht) (getD_replicate_false _ _)⟩
  have H := HeadQ.lex (P := P) (md := .any) (g := l.toArray.size - n) hsel hs hc hn (l.take n) 0 _ a (fun j hj => by
    rw [e1] at hj
    simp [hj]) (by omega) inv (by rw [e1]; exact hlex) h
  refine wp_region_any hm ?_
  have R := HeadQ.run (Q' := Q) (g := l.toArray.size - n) (fun ls a' w' hC hL => by
    have := wpAny_of_seq (md := .any) (Q' := Q) (l.drop n) n ls a' w' (fun j => by simp [List.getElem?_drop]) (by rw [e2]; exact hL.1) (hL.2 w' hC)
    rwa [e2] at this) _ _ _ _ hw H
  rw [e1, show n + (l.toArray.size - n) = l.toArray.size by omega] at R
  exact R
/-- A load of a whole variable that lies in an old block, in every world of the class. -/
theorem load_regrown {P : Program} {w : World} {g : Nat} {t ty : TypeId} {cs : Array Value} (hK : Bk w g t cs) {d : TypeDesc} (hu : P.underlying ty = some d) (hd : (match d with | .struct _ | .array _ _ => true | _ => false) = true) (hi : (P.info? ty).map (·.size) = some cs.size) (n : Nat) (os : Array Obj) :
    (loadVar ty ⟨g, 0, none⟩).run P (grow (redrawn w n) os) = .ok (.agg cs) (grow (redrawn w n) os) :=
  run_loadVar_row (grow (redrawn w n) os) g t ty cs (0, 0) d (hK.nx (below_regrown w n os)) hu hd hi
/-- The load of a whole variable, as a step of the quiet walk. -/
theorem wpQuiet_load {P : Program} {ops : Array Oper} {rest : List Oper} {o : Oper} {a : Act} {w : World} {Q : Act → Prop} (hgd : o.guard = none) (ty : TypeId) (x : Operand) (ho : o.op = .load ty x)
    {g : Nat} {t : TypeId} {cs : Array Value} (hK : Bk w g t cs) (hx : a.eval x = .pointer (some ⟨g, 0, none⟩)) {d : TypeDesc} (hu : P.underlying ty = some d) (hd : (match d with | .struct _ | .array _ _ => true | _ => false) = true) (hi : (P.info? ty).map (·.size) = some cs.size)
    (h : wpQuiet P ops (fun w' => ∃ p : Regrown, w' = grow (redrawn w p.d) p.os) Q rest (a.put o.dst (.agg cs))) : wpQuiet P ops (fun w' => ∃ p : Regrown, w' = grow (redrawn w p.d) p.os) Q (o :: rest) a := by
  refine wpQuiet_step fun K hK2 => ?_
  have hw : Region.wanted o (yielded ops a.tmps) = true := by unfold Region.wanted; rw [hgd]
  rw [if_pos hw]
  refine ⟨.agg cs, fun w' hw' => ?_, hK2 _ h⟩
  obtain ⟨⟨n, os⟩, rfl⟩ := hw'
  have hl := load_regrown (P := P) (ty := ty) hK hu hd hi n os
  unfold Oper.quietAt execOp
  simp only [ho, hx, Instr.loadAt, Instr.sureAddr, Sem.run_bind, Sem.run_pure, Result.andThen_ok, hl]
  exact ⟨rfl, rfl⟩
theorem quiet_call {P : Program} {f : FuncId} {args : Array Value} {w : World} {d : Nat} {os : Array Obj} {v : Value} {R : Ending → World → Prop} (h : Calls P f args (grow (redrawn w d) os) R) (hR : ∀ e w', R e w' → e = .returned v ∧ Below (grow (redrawn w d) os).heap.size (grow (redrawn w d) os) w') :
    Calls P f args (grow (redrawn w d) os) fun e w'' => e = .returned v ∧ ∃ p : Regrown, w'' = grow (redrawn w p.d) p.os := Calls.regrown_of (h.mono hR)
theorem quiet_below {P : Program} {f : FuncId} {args : Array Value} {w : World} {d : Nat} {os : Array Obj} {v : Value} (h : Calls P f args (grow (redrawn w d) os) fun e w' => e = .returned v ∧ Below (grow (redrawn w d) os).heap.size (grow (redrawn w d) os) w') :
    Calls P f args (grow (redrawn w d) os) fun e w'' => e = .returned v ∧ ∃ p : Regrown, w'' = grow (redrawn w p.d) p.os := Calls.regrown_of h
theorem quiet_eq {P : Program} {f : FuncId} {args : Array Value} {w : World} {d : Nat} {os : Array Obj} {v : Value} (h : Calls P f args (grow (redrawn w d) os) fun e w' => e = .returned v ∧ grow (redrawn w d) os = w') :
    Calls P f args (grow (redrawn w d) os) fun e w'' => e = .returned v ∧ ∃ p : Regrown, w'' = grow (redrawn w p.d) p.os := h.mono fun e w' ⟨h1, h2⟩ => ⟨h1, ⟨d, os⟩, h2.symm⟩
end Go.Proofs.YtgohbkkeppknoaaGreatDoor
end
section
set_option linter.unusedVariables false
namespace Go.Proofs.YtgohbkkeppknoaaGreatDoor
open Go.RowKit Go.Sort
section
variable {P : Program} {ops : Array Oper} {md : Region.Mode} {C : World → Prop}
/-- Operation t waits for operation i, through f steps at most. -/
def reachB (md : Region.Mode) (ops : Array Oper) : Nat → Nat → Nat → Bool
  | 0, _, _ => false
  | f + 1, t, i => match ops[t]? with
    | none => false
    | some o => o.after.any fun e => Region.binds md e && (e.on == i || reachB md ops f e.on i)
def behindB (md : Region.Mode) (ops : Array Oper) (n f : Nat) : Bool := (List.range ops.size).all fun t => decide (t < n) || (List.range n).all fun i => reachB md ops f t i
theorem reach_listed {n : Nat} {ls : Array Bool} (inv : HeadInv md ops n ls) {i : Nat} (f : Nat) : ∀ t, reachB md ops f t i = true → (∀ o, ops[t]? = some o → ∀ e ∈ o.after, Region.binds md e = true → ls.getD e.on false = true) → ls.getD i false = true := by
  induction f with
  | zero => intro t h; cases h
  | succ f ih =>
    intro t h hd
    unfold reachB at h
    split at h
    · cases h
    · rename_i o ho
      obtain ⟨e, he, hb⟩ := Array.any_eq_true'.1 h
      simp only [Bool.and_eq_true, Bool.or_eq_true, beq_iff_eq] at hb
      have hl := hd o ho e he hb.1
      rcases hb.2 with h1 | h1
      · rw [← h1]; exact hl
      · exact ih e.on h1 (fun o2 ho2 e2 he2 hb2 => inv.closed e.on o2 ho2 hl e2 he2 hb2)
theorem behind_lt {n f : Nat} (hB : behindB md ops n f = true) {ls : Array Bool} (inv : HeadInv md ops n ls) {i : Nat} (hi : i < n) (hun : ls.getD i true = false) (j : Nat) (hj : j ∈ Region.ready md ops ls) : j < n := by
  rcases Nat.lt_or_ge j n with h | h
  · exact h
  · exfalso
    obtain ⟨hj1, oj, hoj, hall⟩ := mem_ready.1 hj
    have hjs : j < ops.size := (Array.getElem?_eq_some_iff.1 hoj).1
    have h1 := List.all_eq_true.1 hB j (List.mem_range.2 hjs)
    simp only [Bool.or_eq_true, decide_eq_true_eq] at h1
    rcases h1 with h1 | h1
    · omega
    · have h2 := List.all_eq_true.1 h1 i (List.mem_range.2 hi)
      have h3 := reach_listed inv f j h2 (fun o ho e he hb => by
        have : o = oj := Option.some.inj (ho.symm.trans hoj)
        subst this
        exact hall e he hb)
      rw [getD_both hun] at h3
      cases h3
/-- What has come up once the first operations have. -/
def upTo : Nat → Nat → Array Bool → Array Bool
  | 0, _, ls => ls
  | f + 1, k, ls => upTo f (k + 1) (ls.setIfInBounds k true)
def goB (md : Region.Mode) (ops : Array Oper) : Nat → Nat → Array Bool → Bool
  | 0, _, _ => true
  | f + 1, k, ls => (Region.ready md ops ls).contains k && Region.free md ops ls k && goB md ops f (k + 1) (ls.setIfInBounds k true)
def lateB (md : Region.Mode) (ops : Array Oper) (n f : Nat) : Bool :=
  Region.noSelect ops && decide (n ≤ ops.size) && behindB md ops n f && goB md ops n 0 (Array.replicate ops.size false) && (Region.ready md ops (upTo n 0 (Array.replicate ops.size false))).all (fun j => decide (n ≤ j))
theorem HeadQ.lexU {n f : Nat} {LS : Array Bool} {Lq : Act → Prop} (hsel : Region.noSelect ops = true) (hb : behindB md ops n f = true) (hd : ∀ j ∈ Region.ready md ops LS, n ≤ j) (l : List Oper) :
    ∀ (k : Nat) (ls : Array Bool) (a : Act), (∀ j, j < l.length → l[j]? = ops[k + j]?) → k + l.length = n → HeadInv md ops n ls → goB md ops l.length k ls = true → upTo l.length k ls = LS → wpQuiet P ops C Lq l a →
      HeadQ P md ops C n (fun ls' a' => ls' = LS ∧ Lq a') l.length ls a := by
  induction l with
  | nil => intro k ls a _ _ _ _ hu h; exact ⟨hu, h⟩
  | cons o l ih =>
    intro k ls a hl hk inv hB hu h
    have ho : ops[k]? = some o := by have := hl 0 (by simp); simpa using this.symm
    rw [List.length_cons] at hk hB hu
    simp only [goB, Bool.and_eq_true] at hB
    have hkn : k < n := by omega
    have hr : k ∈ Region.ready md ops ls := by simpa using hB.1.1
    obtain ⟨v, hy, hK⟩ := yieldsIn_of_qOp (K := wpQuiet P ops C Lq l) ho (by unfold qOp; simp only [ho]; exact h)
    exact HeadQ.first ⟨ho, hsel, hkn, fun ls' inv' hun j hj => behind_lt hb inv' hkn hun j hj, fun ls' a' hL => by rw [hL.1]; exact hd⟩ l.length ls a inv (Region.free_spec ho hB.1.2) hr hy
      (ih (k + 1) _ _ (fun j hj => by have := hl (j + 1) (by simp; omega); rw [show k + 1 + j = k + (j + 1) by omega, ← this]; rfl) (by omega) (inv.set hr hkn) hB.2 hu hK)
end
theorem wp_region_quiet_late {P : Program} {id : Nat} {Q : Exit → Act → World → Prop} {a : Act} {w : World} {l : List Oper} (n f : Nat) (hm : P.follows .mixedOrders = true) (hB : lateB .any l.toArray n f = true)
    (h : wpQuiet P l.toArray (fun w' => ∃ p : Regrown, w' = grow (redrawn w p.d) p.os) (fun a' => ∀ w', (∃ p : Regrown, w' = grow (redrawn w p.d) p.os) → wpAny P .any l.toArray Q (l.length - n) (upTo n 0 (Array.replicate l.length false)) a' w') (l.take n) a) : (Code.region id l.toArray true).wp P Q a w := by
  simp only [lateB, Bool.and_eq_true, decide_eq_true_eq] at hB
  obtain ⟨⟨⟨⟨hsel, hn⟩, hb⟩, hgo⟩, hd⟩ := hB
  have hn2 : n ≤ l.length := by simpa using hn
  have hsz : l.toArray.size = l.length := by simp
  rw [hsz] at hgo hd
  have e1 : (l.take n).length = n := by rw [List.length_take]; omega
  have hw : Cl w { w with drawn := w.drawn + 1 } := ⟨⟨w.drawn + 1, #[]⟩, by rw [grow_empty]; rfl⟩
  have inv : HeadInv .any l.toArray n (Array.replicate l.length false) :=
    ⟨by simp, fun j oj _ hl => (by rw [getD_replicate_false] at hl; cases hl), fun t _ ht => getD_in (by simpa using ht) (getD_replicate_false _ _)⟩
  have hd2 : ∀ j ∈ Region.ready .any l.toArray (upTo n 0 (Array.replicate l.length false)), n ≤ j := fun j hj => of_decide_eq_true (List.all_eq_true.1 hd j hj)
  have H := HeadQ.lexU (P := P) (md := .any) (f := f) (LS := upTo n 0 (Array.replicate l.length false)) hsel hb hd2 (l.take n) 0 _ a (fun j hj => by
    rw [e1] at hj
    simp [hj]) (by omega) inv (by rw [e1]; exact hgo) (by rw [e1]) h
  refine wp_region_any hm ?_
  have R := HeadQ.run (Q' := Q) (g := l.length - n) (fun ls a' w' hC hL => by rw [hL.1]; exact hL.2 w' hC) _ _ _ _ hw H
  rw [e1, show n + (l.length - n) = l.toArray.size by rw [hsz]; omega] at R
  exact R
section
variable {P : Program} {ops : Array Oper} {md : Region.Mode} {Q : Exit → Act → World → Prop}
/-- A result picked out of several may be picked ahead of what else comes. -/
theorem wpAny_ext {i : Nat} {oi : Oper} {fuel : Nat} {ls : Array Bool} {a : Act} {w : World} (x : Operand) (k : Nat) (vs : Array Value) (v : Value) (t : Tmp) (hi : ops[i]? = some oi) (hd : oi.dst = some t) (hg : oi.guard = none) (ho : oi.op = .extract x k) (hx : a.eval x = .tuple vs) (hv : vs[k]? = some v)
    (hs : Region.noSelect ops = true) (hf : Region.free md ops ls i = true) (hr : (Region.ready md ops ls).contains i = true) (hQ : ∀ c a w, Q (.panic c) (a.put (some t) v) w → Q (.panic c) a w)
    (h : wpAny P md ops Q fuel (ls.setIfInBounds i true) (a.put (some t) v) w) : wpAny P md ops Q (fuel + 1) ls a w := by
  rw [← hd] at hQ h
  refine wpAny_take hi hs hf hr hQ (.inl ⟨by unfold Region.wanted; rw [hg], fun w' => ?_⟩) h
  unfold execOp
  simp [ho, hx, Instr.extract, hv]
theorem wpAny_tail {fuel : Nat} {ls : Array Bool} {a : Act} {w : World} (k : Nat) (hk : k + fuel = ops.size) (hB : Region.seqB md ops fuel k ls = true) (h : wpList P ops Q (ops.toList.drop k) a w) : wpAny P md ops Q fuel ls a w := by
  have e : (ops.toList.drop k).length = fuel := by rw [List.length_drop, Array.length_toList]; omega
  have := wpAny_of_seq (P := P) (md := md) (Q' := Q) (ops.toList.drop k) k ls a w (fun j => by simp [List.getElem?_drop]) (by rw [e]; exact hB) h
  rwa [e] at this
end
end Go.Proofs.YtgohbkkeppknoaaGreatDoor
end
