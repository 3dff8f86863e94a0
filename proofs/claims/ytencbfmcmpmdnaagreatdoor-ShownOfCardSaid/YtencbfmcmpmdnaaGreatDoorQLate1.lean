/- As QLate, where the region's first operation, a move, may come whenever it likes. -/
import Derived.Test.YtencbfmcmpmdnaaGreatDoorQLate
set_option linter.unusedVariables false
namespace Go.Proofs.YtencbfmcmpmdnaaGreatDoor
open Go.RowKit Go.Sort
section
variable {P : Program} {ops : Array Oper} {md : Region.Mode} {C : World → Prop}
def behindB1 (md : Region.Mode) (ops : Array Oper) (n f : Nat) : Bool := (List.range ops.size).all fun t => decide (t < n) || (List.range n).all fun i => i == 0 || reachB md ops f t i
theorem behind_lt1 {n f : Nat} (hB : behindB1 md ops n f = true) {ls : Array Bool} (inv : HeadInv md ops n ls) {i : Nat} (hi : i < n) (hi1 : 1 ≤ i) (hun : ls.getD i true = false) (j : Nat) (hj : j ∈ Region.ready md ops ls) : j < n := by
  rcases Nat.lt_or_ge j n with h | h
  · exact h
  · exfalso
    obtain ⟨hj1, oj, hoj, hall⟩ := mem_ready.1 hj
    have hjs : j < ops.size := (Array.getElem?_eq_some_iff.1 hoj).1
    have h1 := List.all_eq_true.1 hB j (List.mem_range.2 hjs)
    simp only [Bool.or_eq_true, decide_eq_true_eq] at h1
    rcases h1 with h1 | h1
    · omega
    · have h2 := List.all_eq_true.1 h1 i (List.mem_range.2 hi)
      have h2' : reachB md ops f j i = true := by
        rcases (Bool.or_eq_true _ _).mp h2 with h | h
        · exact absurd (beq_iff_eq.1 h) (by omega)
        · exact h
      have h3 := reach_listed inv f j h2' (fun o ho e he hb => by
        have : o = oj := Option.some.inj (ho.symm.trans hoj)
        subst this
        exact hall e he hb)
      rw [getD_both hun] at h3
      cases h3
def lateB1 (md : Region.Mode) (ops : Array Oper) (n f : Nat) : Bool :=
  Region.noSelect ops && decide (n ≤ ops.size) && decide (1 ≤ n) && behindB1 md ops n f && (Region.ready md ops (Array.replicate ops.size false)).contains 0 && Region.free md ops (Array.replicate ops.size false) 0 && goB md ops (n - 1) 1 ((Array.replicate ops.size false).setIfInBounds 0 true) && (Region.ready md ops (upTo (n - 1) 1 ((Array.replicate ops.size false).setIfInBounds 0 true))).all (fun j => decide (n ≤ j))
theorem HeadQ.lexU1 {n f : Nat} {LS : Array Bool} {Lq : Act → Prop} (hsel : Region.noSelect ops = true) (hb : behindB1 md ops n f = true) (hd : ∀ j ∈ Region.ready md ops LS, n ≤ j) (l : List Oper) :
    ∀ (k : Nat) (ls : Array Bool) (a : Act), 1 ≤ k → (∀ j, j < l.length → l[j]? = ops[k + j]?) → k + l.length = n → HeadInv md ops n ls → goB md ops l.length k ls = true → upTo l.length k ls = LS → wpQuiet P ops C Lq l a →
      HeadQ P md ops C n (fun ls' a' => ls' = LS ∧ Lq a') l.length ls a := by
  induction l with
  | nil => intro k ls a _ _ _ _ _ hu h; exact ⟨hu, h⟩
  | cons o l ih =>
    intro k ls a hk1 hl hk inv hB hu h
    have ho : ops[k]? = some o := by have := hl 0 (by simp); simpa using this.symm
    rw [List.length_cons] at hk hB hu
    simp only [goB, Bool.and_eq_true] at hB
    have hkn : k < n := by omega
    have hr : k ∈ Region.ready md ops ls := by simpa using hB.1.1
    obtain ⟨v, hy, hK⟩ := yieldsIn_of_qOp (K := wpQuiet P ops C Lq l) ho (by unfold qOp; simp only [ho]; exact h)
    exact HeadQ.first ⟨ho, hsel, hkn, fun ls' inv' hun j hj => behind_lt1 hb inv' hkn hk1 hun j hj, fun ls' a' hL => by rw [hL.1]; exact hd⟩ l.length ls a inv (Region.free_spec ho hB.1.2) hr hy
      (ih (k + 1) _ _ (by omega) (fun j hj => by have := hl (j + 1) (by simp; omega); rw [show k + 1 + j = k + (j + 1) by omega, ← this]; rfl) (by omega) (inv.set hr hkn) hB.2 hu hK)
end
theorem wp_region_quiet_late1 {P : Program} {id : Nat} {Q : Exit → Act → World → Prop} {a : Act} {w : World} {o0 : Oper} {l : List Oper} (n f : Nat) (x : Operand) (hm : P.follows .mixedOrders = true) (ho : o0.op = .move x) (hg : o0.guard = none) (hB : lateB1 .any (o0 :: l).toArray n f = true)
    (hQ : ∀ c a' w', Q (.panic c) (a'.put o0.dst (a.eval x)) w' → Q (.panic c) a' w')
    (h : wpQuiet P (o0 :: l).toArray (fun w' => ∃ p : Regrown, w' = grow (redrawn w p.d) p.os) (fun a' => ∀ w', (∃ p : Regrown, w' = grow (redrawn w p.d) p.os) → wpAny P .any (o0 :: l).toArray Q (l.length + 1 - n) (upTo (n - 1) 1 ((Array.replicate (l.length + 1) false).setIfInBounds 0 true)) a' w') (l.take (n - 1)) (a.put o0.dst (a.eval x))) : (Code.region id (o0 :: l).toArray true).wp P Q a w := by
  simp only [lateB1, Bool.and_eq_true, decide_eq_true_eq] at hB
  obtain ⟨⟨⟨⟨⟨⟨⟨hsel, hn⟩, hn1⟩, hb⟩, hr0⟩, hf0⟩, hgo⟩, hd⟩ := hB
  have hn2 : n ≤ l.length + 1 := by simpa using hn
  have hsz : (o0 :: l).toArray.size = l.length + 1 := by simp
  rw [hsz] at hgo hd hr0 hf0
  have e1 : (l.take (n - 1)).length = n - 1 := by rw [List.length_take]; omega
  have hw : Cl w { w with drawn := w.drawn + 1 } := ⟨⟨w.drawn + 1, #[]⟩, by rw [grow_empty]; rfl⟩
  have inv : HeadInv .any (o0 :: l).toArray n (Array.replicate (l.length + 1) false) :=
    ⟨by simp, fun j oj _ hl => (by rw [getD_replicate_false] at hl; cases hl), fun t _ ht => getD_in (by simpa using ht) (getD_replicate_false _ _)⟩
  have hr0' : 0 ∈ Region.ready .any (o0 :: l).toArray (Array.replicate (l.length + 1) false) := by simpa using hr0
  have inv1 := inv.set hr0' hn1
  have hd2 : ∀ j ∈ Region.ready .any (o0 :: l).toArray (upTo (n - 1) 1 ((Array.replicate (l.length + 1) false).setIfInBounds 0 true)), n ≤ j := fun j hj => of_decide_eq_true (List.all_eq_true.1 hd j hj)
  have H := HeadQ.lexU1 (P := P) (md := .any) (f := f) (LS := upTo (n - 1) 1 ((Array.replicate (l.length + 1) false).setIfInBounds 0 true)) hsel hb hd2 (l.take (n - 1)) 1 _ _ (Nat.le_refl _) (fun j hj => by
    rw [e1] at hj
    have hj2 : j < n - 1 := hj
    rw [show 1 + j = j + 1 by omega]
    simp [hj2]) (by omega) inv1 (by rw [e1]; exact hgo) (by rw [e1]) h
  refine wp_region_any hm ?_
  rw [hsz]
  refine wpAny_take (i := 0) (oi := o0) (v := a.eval x) (by simp) hsel hf0 (by simpa using hr0) hQ (.inl ⟨by unfold Region.wanted; rw [hg], fun w' => ?_⟩) ?_
  · unfold execOp
    simp [ho]
  · have R := HeadQ.run (Q' := Q) (g := l.length + 1 - n) (fun ls a' w' hC hL => by rw [hL.1]; exact hL.2 w' hC) _ _ _ _ hw H
    rw [e1, show n - 1 + (l.length + 1 - n) = l.length by omega] at R
    exact R
end Go.Proofs.YtencbfmcmpmdnaaGreatDoor
