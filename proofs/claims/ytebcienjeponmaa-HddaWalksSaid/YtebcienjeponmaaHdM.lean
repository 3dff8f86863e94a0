/- hdda: the lines of a map; numbers that grow along a row; Next (Hd1, QLate1, Hd2, Hd3, Hd4 in one text). -/
import Derived.Test.YtebcienjeponmaaHm7
import Derived.BigRegion
import Derived.RegionTactic
import Derived.Test.YtebcienjeponmaaQLate
import Derived.Defers
set_option linter.unusedVariables false
namespace Go.Proofs.Ytebcienjeponmaa
open Go.RowKit
theorem res_cell3 {P : Program} {fn : Func} {p q r : Tmp} {ty : TypeId} (h : fn.results = #[.cell p ty, .cell q ty, .cell r ty]) {tmps : Array Value} {w : World} {g g2 g3 : Nat} {t : TypeId} {cs cs2 cs3 : Array Value} (hK : Bk w g t cs) (hK2 : Bk w g2 t cs2) (hK3 : Bk w g3 t cs3) {d : TypeDesc}
    (hp : tmps.getD p undef = .pointer (some ⟨g, 0, none⟩)) (hq : tmps.getD q undef = .pointer (some ⟨g2, 0, none⟩)) (hr : tmps.getD r undef = .pointer (some ⟨g3, 0, none⟩)) (hu : P.underlying ty = some d) (hd : (match d with | .struct _ | .array _ _ => true | _ => false) = true) (hi : (P.info? ty).map (·.size) = some cs.size) (hi2 : cs2.size = cs.size := by rfl) (hi3 : cs3.size = cs.size := by rfl) :
    (results fn tmps).run P w = .ok (.tuple #[.agg cs, .agg cs2, .agg cs3]) w := by
  have hp' : tmps[p]?.getD undef = .pointer (some ⟨g, 0, none⟩) := by simpa using hp
  have hq' : tmps[q]?.getD undef = .pointer (some ⟨g2, 0, none⟩) := by simpa using hq
  have hr' : tmps[r]?.getD undef = .pointer (some ⟨g3, 0, none⟩) := by simpa using hr
  simp [results, h, hp', hq', hr', asAddr, run_loadVar_row w g t ty cs (0, 0) d hK hu hd hi, run_loadVar_row w g2 t ty cs2 (0, 0) d hK2 hu hd (by rw [hi, hi2]), run_loadVar_row w g3 t ty cs3 (0, 0) d hK3 hu hd (by rw [hi, hi3])]
theorem hdin_any (a : Int) (w : World) : Calls Try.prog 51 #[.int .i64 a] w fun e w' => e = .returned (.bool (inH a 1048576)) ∧ w = w' := by
  rw [inH_eq]
  by_cases h1 : -1048576 ≤ a
  all_goals
    go_enter Try.func51, Try.ntmps51
    go_wp2
    go_ret
    exact ⟨ret_bool (by simp [h1] <;> omega), rfl⟩
set_option maxRecDepth 100000 in
set_option maxHeartbeats 4000000 in
theorem lines_any (a : Nat → Int) (g : Nat) (w : World) (hK : Bk w g 74 (mA a)) :
    Calls Try.prog 12 #[.pointer (some ⟨g, 0, none⟩)] w fun e w' => e = .returned (.tuple #[.agg (a3 (a 0) (a 1) (a 2)), .agg (a3 (a 3) (a 4) (a 5)), .agg (a3 (a 6) (a 7) (a 8))]) ∧ Below w.heap.size w w' := by
  have hL := (((Lie.start w).alloc (a3 0 0 0) 31).alloc (a3 0 0 0) 31).alloc (a3 0 0 0) 31
  simp only [World.size_alloc] at hL
  have hlt := hK.lt
  go_enter Try.func12, Try.ntmps12
  go_upto_region 3 with fail
  have hK3 := ((hK.alloc (.cells (a3 0 0 0) 31)).alloc (.cells (a3 0 0 0) 31)).alloc (.cells (a3 0 0 0) 31)
  generalize ((w.alloc (.cells (a3 0 0 0) 31)).alloc (.cells (a3 0 0 0) 31)).alloc (.cells (a3 0 0 0) 31) = w3 at *
  obtain ⟨c0, c1, c2, c3, c4, c5, c6, c7, c8⟩ := hK3.cell9
  have k0 : Bk w3 w.heap.size 31 (a3 0 0 0) := hL.k 2 (by simp)
  have k1 : Bk w3 (w.heap.size + 1) 31 (a3 0 0 0) := hL.k 1 (by simp)
  have k2 : Bk w3 (w.heap.size + 1 + 1) 31 (a3 0 0 0) := hL.k 0 (by simp)
  obtain ⟨d0, d1, d2⟩ := k0.cell3
  obtain ⟨d3, d4, d5⟩ := k1.cell3
  obtain ⟨d6, d7, d8⟩ := k2.cell3
  have f0 := k0.frozen
  have f1 := k1.frozen
  have f2 := k2.frozen
  have n0 : g ≠ w.heap.size := by omega
  have n1 : g ≠ w.heap.size + 1 := by omega
  have n2 : g ≠ w.heap.size + 1 + 1 := by omega
  go_region
  have b0 := (((((((((k0.set3 (.int .i64 (a 0)) (.int .i64 (a 1)) (.int .i64 (a 2))).far (p := ⟨w.heap.size + 1, 0, none⟩) (by simp) (.int .i64 (a 3))).far (p := ⟨w.heap.size + 1, 1, none⟩) (by simp) (.int .i64 (a 4))).far (p := ⟨w.heap.size + 1, 2, none⟩) (by simp) (.int .i64 (a 5))).far (p := ⟨w.heap.size + 1 + 1, 0, none⟩) (by simp; omega) (.int .i64 (a 6))).far (p := ⟨w.heap.size + 1 + 1, 1, none⟩) (by simp; omega) (.int .i64 (a 7))).far (p := ⟨w.heap.size + 1 + 1, 2, none⟩) (by simp; omega) (.int .i64 (a 8)))).drew)
  have b1 := (((((((k1.far (p := ⟨w.heap.size, 0, none⟩) (by simp) (.int .i64 (a 0))).far (p := ⟨w.heap.size, 1, none⟩) (by simp) (.int .i64 (a 1))).far (p := ⟨w.heap.size, 2, none⟩) (by simp) (.int .i64 (a 2))).set3 (.int .i64 (a 3)) (.int .i64 (a 4)) (.int .i64 (a 5))).far (p := ⟨w.heap.size + 1 + 1, 0, none⟩) (by simp) (.int .i64 (a 6))).far (p := ⟨w.heap.size + 1 + 1, 1, none⟩) (by simp) (.int .i64 (a 7))).far (p := ⟨w.heap.size + 1 + 1, 2, none⟩) (by simp) (.int .i64 (a 8))).drew
  have b2 := (((((((k2.far (p := ⟨w.heap.size, 0, none⟩) (by simp; omega) (.int .i64 (a 0))).far (p := ⟨w.heap.size, 1, none⟩) (by simp; omega) (.int .i64 (a 1))).far (p := ⟨w.heap.size, 2, none⟩) (by simp; omega) (.int .i64 (a 2))).far (p := ⟨w.heap.size + 1, 0, none⟩) (by simp) (.int .i64 (a 3))).far (p := ⟨w.heap.size + 1, 1, none⟩) (by simp) (.int .i64 (a 4))).far (p := ⟨w.heap.size + 1, 2, none⟩) (by simp) (.int .i64 (a 5))).set3 (.int .i64 (a 6)) (.int .i64 (a 7)) (.int .i64 (a 8))).drew
  have hbl : Below w.heap.size w _ := (((((((((hL.bel.setCell (p := ⟨w.heap.size, 0, none⟩) (by simp) (.int .i64 (a 0))).setCell (p := ⟨w.heap.size, 1, none⟩) (by simp) (.int .i64 (a 1))).setCell (p := ⟨w.heap.size, 2, none⟩) (by simp) (.int .i64 (a 2))).setCell (p := ⟨w.heap.size + 1, 0, none⟩) (by simp) (.int .i64 (a 3))).setCell (p := ⟨w.heap.size + 1, 1, none⟩) (by simp) (.int .i64 (a 4))).setCell (p := ⟨w.heap.size + 1, 2, none⟩) (by simp) (.int .i64 (a 5))).setCell (p := ⟨w.heap.size + 1 + 1, 0, none⟩) (by simp; omega) (.int .i64 (a 6))).setCell (p := ⟨w.heap.size + 1 + 1, 1, none⟩) (by simp; omega) (.int .i64 (a 7))).setCell (p := ⟨w.heap.size + 1 + 1, 2, none⟩) (by simp; omega) (.int .i64 (a 8)))
  replace hbl := below_drewN hbl 1
  clear f0 f1 f2 d0 d1 d2 d3 d4 d5 d6 d7 d8 c0 c1 c2 c3 c4 c5 c6 c7 c8 k0 k1 k2
  go_wp2_with fail
  refine bodyPost_ret (res_cell3 rfl b0 b1 b2 rfl rfl rfl Try.underlying31 rfl a3_info) rfl ?_
  exact ⟨rfl, hbl⟩
end Go.Proofs.Ytebcienjeponmaa

namespace Go.Proofs.Ytebcienjeponmaa
open Go.RowKit Go.Sort
section
variable {P : Program} {ops : Array Oper} {md : Region.Mode} {C : World → Prop}
def behindB1 (md : Region.Mode) (ops : Array Oper) (n f : Nat) : Bool := (List.range ops.size).all fun t => decide (t < n) || (List.range n).all fun i => i == 0 || reachB md ops f t i
theorem behind_lt1 {n f : Nat} (hB : behindB1 md ops n f = true) {ls : Array Bool} (inv : HeadInv md ops n ls) {i : Nat} (hi : i < n) (hi1 : 1 ≤ i) (hun : ls.getD i true = false) (j : Nat) (hj : j ∈ Region.ready md ops ls) : j < n := by
  rcases Nat.lt_or_ge j n with h | h
  · exact h
  · exfalso
    obtain ⟨hj1, oj, hoj, hall⟩ := mem_ready.1 hj
    have hjs : j < ops.size := (Array.getElem?_eq_some_iff.1 hoj).1
    have h1 := List.all_eq_true.1 hB j (List.mem_range.2 hjs)
    simp only [Bool.or_eq_true, decide_eq_true_eq] at h1
    rcases h1 with h1 | h1
    · omega
    · have h2 := List.all_eq_true.1 h1 i (List.mem_range.2 hi)
      have h2' : reachB md ops f j i = true := by
        rcases (Bool.or_eq_true _ _).mp h2 with h | h
        · exact absurd (beq_iff_eq.1 h) (by omega)
        · exact h
      have h3 := reach_listed inv f j h2' (fun o ho e he hb => by
        have : o = oj := Option.some.inj (ho.symm.trans hoj)
        subst this
        exact hall e he hb)
      rw [getD_both hun] at h3
      cases h3
def lateB1 (md : Region.Mode) (ops : Array Oper) (n f : Nat) : Bool :=
  Region.noSelect ops && decide (n ≤ ops.size) && decide (1 ≤ n) && behindB1 md ops n f && (Region.ready md ops (Array.replicate ops.size false)).contains 0 && Region.free md ops (Array.replicate ops.size false) 0 && goB md ops (n - 1) 1 ((Array.replicate ops.size false).setIfInBounds 0 true) && (Region.ready md ops (upTo (n - 1) 1 ((Array.replicate ops.size false).setIfInBounds 0 true))).all (fun j => decide (n ≤ j))
theorem HeadQ.lexU1 {n f : Nat} {LS : Array Bool} {Lq : Act → Prop} (hsel : Region.noSelect ops = true) (hb : behindB1 md ops n f = true) (hd : ∀ j ∈ Region.ready md ops LS, n ≤ j) (l : List Oper) :
    ∀ (k : Nat) (ls : Array Bool) (a : Act), 1 ≤ k → (∀ j, j < l.length → l[j]? = ops[k + j]?) → k + l.length = n → HeadInv md ops n ls → goB md ops l.length k ls = true → upTo l.length k ls = LS → wpQuiet P ops C Lq l a →
      HeadQ P md ops C n (fun ls' a' => ls' = LS ∧ Lq a') l.length ls a := by
  induction l with
  | nil => intro k ls a _ _ _ _ _ hu h; exact ⟨hu, h⟩
  | cons o l ih =>
    intro k ls a hk1 hl hk inv hB hu h
    have ho : ops[k]? = some o := by have := hl 0 (by simp); simpa using this.symm
    rw [List.length_cons] at hk hB hu
    simp only [goB, Bool.and_eq_true] at hB
    have hkn : k < n := by omega
    have hr : k ∈ Region.ready md ops ls := by simpa using hB.1.1
    obtain ⟨v, hy, hK⟩ := yieldsIn_of_qOp (K := wpQuiet P ops C Lq l) ho (by unfold qOp; simp only [ho]; exact h)
    exact HeadQ.first ⟨ho, hsel, hkn, fun ls' inv' hun j hj => behind_lt1 hb inv' hkn hk1 hun j hj, fun ls' a' hL => by rw [hL.1]; exact hd⟩ l.length ls a inv (Region.free_spec ho hB.1.2) hr hy
      (ih (k + 1) _ _ (by omega) (fun j hj => by have := hl (j + 1) (by simp; omega); rw [show k + 1 + j = k + (j + 1) by omega, ← this]; rfl) (by omega) (inv.set hr hkn) hB.2 hu hK)
end
theorem wp_region_quiet_late1 {P : Program} {id : Nat} {Q : Exit → Act → World → Prop} {a : Act} {w : World} {o0 : Oper} {l : List Oper} (n f : Nat) (x : Operand) (hm : P.follows .mixedOrders = true) (ho : o0.op = .move x) (hg : o0.guard = none) (hB : lateB1 .any (o0 :: l).toArray n f = true)
    (hQ : ∀ c a' w', Q (.panic c) (a'.put o0.dst (a.eval x)) w' → Q (.panic c) a' w')
    (h : wpQuiet P (o0 :: l).toArray (fun w' => ∃ p : Regrown, w' = grow (redrawn w p.d) p.os) (fun a' => ∀ w', (∃ p : Regrown, w' = grow (redrawn w p.d) p.os) → wpAny P .any (o0 :: l).toArray Q (l.length + 1 - n) (upTo (n - 1) 1 ((Array.replicate (l.length + 1) false).setIfInBounds 0 true)) a' w') (l.take (n - 1)) (a.put o0.dst (a.eval x))) : (Code.region id (o0 :: l).toArray true).wp P Q a w := by
  simp only [lateB1, Bool.and_eq_true, decide_eq_true_eq] at hB
  obtain ⟨⟨⟨⟨⟨⟨⟨hsel, hn⟩, hn1⟩, hb⟩, hr0⟩, hf0⟩, hgo⟩, hd⟩ := hB
  have hn2 : n ≤ l.length + 1 := by simpa using hn
  have hsz : (o0 :: l).toArray.size = l.length + 1 := by simp
  rw [hsz] at hgo hd hr0 hf0
  have e1 : (l.take (n - 1)).length = n - 1 := by rw [List.length_take]; omega
  have hw : Cl w { w with drawn := w.drawn + 1 } := ⟨⟨w.drawn + 1, #[]⟩, by rw [grow_empty]; rfl⟩
  have inv : HeadInv .any (o0 :: l).toArray n (Array.replicate (l.length + 1) false) :=
    ⟨by simp, fun j oj _ hl => (by rw [getD_replicate_false] at hl; cases hl), fun t _ ht => getD_in (by simpa using ht) (getD_replicate_false _ _)⟩
  have hr0' : 0 ∈ Region.ready .any (o0 :: l).toArray (Array.replicate (l.length + 1) false) := by simpa using hr0
  have inv1 := inv.set hr0' hn1
  have hd2 : ∀ j ∈ Region.ready .any (o0 :: l).toArray (upTo (n - 1) 1 ((Array.replicate (l.length + 1) false).setIfInBounds 0 true)), n ≤ j := fun j hj => of_decide_eq_true (List.all_eq_true.1 hd j hj)
  have H := HeadQ.lexU1 (P := P) (md := .any) (f := f) (LS := upTo (n - 1) 1 ((Array.replicate (l.length + 1) false).setIfInBounds 0 true)) hsel hb hd2 (l.take (n - 1)) 1 _ _ (Nat.le_refl _) (fun j hj => by
    rw [e1] at hj
    have hj2 : j < n - 1 := hj
    rw [show 1 + j = j + 1 by omega]
    simp [hj2]) (by omega) inv1 (by rw [e1]; exact hgo) (by rw [e1]) h
  refine wp_region_any hm ?_
  rw [hsz]
  refine wpAny_take (i := 0) (oi := o0) (v := a.eval x) (by simp) hsel hf0 (by simpa using hr0) hQ (.inl ⟨by unfold Region.wanted; rw [hg], fun w' => ?_⟩) ?_
  · unfold execOp
    simp [ho]
  · have R := HeadQ.run (Q' := Q) (g := l.length + 1 - n) (fun ls a' w' hC hL => by rw [hL.1]; exact hL.2 w' hC) _ _ _ _ hw H
    rw [e1, show n - 1 + (l.length + 1 - n) = l.length by omega] at R
    exact R
end Go.Proofs.Ytebcienjeponmaa

namespace Go.Proofs.Ytebcienjeponmaa
open Go.RowKit
/-- A number that grows by the same in each step. -/
abbrev axA (s k : Int) : Array Value := #[.int .i64 (hi6 s), .int .u64 (lo6 s), .int .i64 k]
theorem ax_info : (Try.prog.info? 91).map (·.size) = some 3 := by kernel_rfl
set_option maxRecDepth 100000 in
set_option maxHeartbeats 8000000 in
theorem begin_any (x y z px py : Int) (w : World) (h : LnOk x y z) (hp : rightH px py 1 = true) :
    Calls Try.prog 52 #[.agg (a3 x y z), .int .i64 px, .int .i64 py] w fun e w' => e = .returned (.agg (axA (smR x y z px py 1) x)) ∧ Below w.heap.size w w' := by
  obtain ⟨b0, b1, b2, b3, b4, b5, j1, j2, j3⟩ := sum_bd h hp
  rw [Int.mul_one] at b4 b5
  obtain ⟨x0, x1, y0, y1, z0, z1⟩ := h
  have hM1 := fun w' => wmul_any x px w' ⟨by omega, by omega⟩ j1
  have hM2 := fun w' => wmul_any y py w' ⟨by omega, by omega⟩ j2
  have hM3 := fun w' => wof_any z w' ⟨by omega, by omega⟩
  have hA1 := fun w' => wadd_any (x * px) (y * py) w' (by unfold Wd; omega) (by unfold Wd; omega) (by unfold Wd; omega)
  have hA2 := fun w' => wadd_any (x * px + y * py) z w' (by unfold Wd; omega) (by unfold Wd; omega) (by unfold Wd; omega)
  have HS := Lib.hid (show smR x y z px py 1 = x * px + y * py + z by unfold smR; rw [Int.mul_one])
  rw [← HS.out] at hA2
  clear b0 b1 b2 b3 b4 b5 j1 j2 j3 x0 x1 y0 y1 z0 z1 hp HS
  generalize smR x y z px py 1 = s at *
  generalize x * px + y * py = xy at *
  generalize x * px = xp at *
  generalize y * py = yp at *
  have hL := ((Lie.start w).alloc (a3 x y z) 31).alloc #[.int .i64 0, .int .u64 0, .int .i64 0] 91
  simp only [World.size_alloc] at hL
  go_enter Try.func52, Try.ntmps52
  go_wp2_with fail
  refine (hM1 _).mono ?_
  rintro e w1 ⟨rfl, hb1⟩
  have hw1z : w.heap.size + 1 < w1.heap.size := by have := hb1.size; simp at this; omega
  replace hL := (hL.nx hb1).alloc (wdA xp) 84
  clear hb1
  go_upto_region 2 with fail
  generalize w1.alloc (.cells (wdA xp) 84) = w2 at *
  have k4 : Bk w2 w.heap.size 31 (a3 x y z) := hL.k 2 (by simp)
  have k9 : Bk w2 w1.heap.size 84 (wdA xp) := hL.k 0 (by simp)
  have q1 := fun (d : Nat) (os : Array Obj) => cell_regrown (k4.cell3).2.1 d os
  refine wp_region_quiet_late 7 8 (by kernel_rfl) (by kernel_rfl) ?_
  simp only [List.take_succ_cons, List.take_zero]
  repeat (first | (refine wpQuiet_load rfl _ _ rfl k9 rfl Try.underlying84 rfl wd_size ?_; simp only [Act.put, List.setIfInBounds_toArray, List.set_cons_zero, List.set_cons_succ]) | go_big_quiet_step ((first | with_reducible exact quiet_below (hM2 _) | with_reducible exact quiet_below (hA1 _))) | quiet_step ((first | with_reducible exact quiet_below (hM2 _) | with_reducible exact quiet_below (hA1 _))))
  refine wpQuiet_nil ?_
  intro _ hw'
  obtain ⟨⟨d9, os⟩, hw''⟩ := hw'
  subst hw''
  have hbx := below_regrown w2 d9 os
  generalize Go.Sort.grow (redrawn w2 d9) os = wx at *
  have hLx := hL.nx hbx
  have k9x : Bk wx w1.heap.size 84 (wdA xp) := hLx.k 0 (by simp)
  show wpAny _ _ _ _ 3 _ _ _
  refine wpAny_ext (i := 7) _ _ _ _ _ rfl rfl rfl rfl rfl rfl (by kernel_rfl) (by kernel_rfl) (by kernel_rfl) (fun _ _ _ h => h) ?_
  refine wpAny_ext (i := 8) _ _ _ _ _ rfl rfl rfl rfl rfl rfl (by kernel_rfl) (by kernel_rfl) (by kernel_rfl) (fun _ _ _ h => h) ?_
  refine wpAny_tail 9 rfl (by kernel_rfl) ?_
  simp only [Act.put, List.setIfInBounds_toArray, List.set_cons_zero, List.set_cons_succ, List.drop_succ_cons, List.drop_zero, List.getElem_toArray, List.getElem_cons_succ, List.getElem_cons_zero]
  go_wp2_with (refine stWd rfl _ _ rfl k9x rfl rfl rfl ?_; intro w4 k9y hg4 hs4)
  have hL4 := hLx.set hg4 k9y (by omega) (by intro q hq; simp at hq; rcases hq with rfl | rfl <;> simp <;> omega)
  have k44 : Bk w4 w.heap.size 31 (a3 x y z) := hL4.k 2 (by simp)
  simp only [Act.put]
  have q2 := fun (d : Nat) (os : Array Obj) => cell_regrown (k44.cell3).2.2 d os
  refine wp_region_quiet_late 6 8 (by kernel_rfl) (by kernel_rfl) ?_
  simp only [List.take_succ_cons, List.take_zero]
  repeat (first | (refine wpQuiet_load rfl _ _ rfl k9y rfl Try.underlying84 rfl wd_size ?_; simp only [Act.put, List.setIfInBounds_toArray, List.set_cons_zero, List.set_cons_succ]) | go_big_quiet_step ((first | with_reducible exact quiet_below (hM3 _) | with_reducible exact quiet_below (hA2 _))) | quiet_step ((first | with_reducible exact quiet_below (hM3 _) | with_reducible exact quiet_below (hA2 _))))
  refine wpQuiet_nil ?_
  intro _ hw'
  obtain ⟨⟨d9, os⟩, hw''⟩ := hw'
  subst hw''
  have hbx := below_regrown w4 d9 os
  generalize Go.Sort.grow (redrawn w4 d9) os = wy at *
  have hLy := hL4.nx hbx
  have k9yx : Bk wy w1.heap.size 84 (wdA xy) := hLy.k 0 (by simp)
  show wpAny _ _ _ _ 3 _ _ _
  refine wpAny_ext (i := 6) _ _ _ _ _ rfl rfl rfl rfl rfl rfl (by kernel_rfl) (by kernel_rfl) (by kernel_rfl) (fun _ _ _ h => h) ?_
  refine wpAny_ext (i := 7) _ _ _ _ _ rfl rfl rfl rfl rfl rfl (by kernel_rfl) (by kernel_rfl) (by kernel_rfl) (fun _ _ _ h => h) ?_
  refine wpAny_tail 8 rfl (by kernel_rfl) ?_
  simp only [Act.put, List.setIfInBounds_toArray, List.set_cons_zero, List.set_cons_succ, List.drop_succ_cons, List.drop_zero, List.getElem_toArray, List.getElem_cons_succ, List.getElem_cons_zero]
  go_upto_region 4 with (refine stWd rfl _ _ rfl k9yx rfl rfl rfl ?_; intro w6 k9z hg6 hs6)
  have hL6 := hLy.set hg6 k9z (by omega) (by intro q hq; simp at hq; rcases hq with rfl | rfl <;> simp <;> omega)
  have k86 : Bk w6 (w.heap.size + 1) 91 #[.int .i64 0, .int .u64 0, .int .i64 0] := hL6.k 1 (by simp)
  have k46 : Bk w6 w.heap.size 31 (a3 x y z) := hL6.k 2 (by simp)
  obtain ⟨e0, e1⟩ := k9z.cell2
  have e2 := (k46.cell3).1
  go_wp2_with (refine stB rfl 91 _ _ rfl k86 (axA s x) rfl rfl ax_info rfl (by simp [Value.oneCell']) ?_; intro w8 k88 hg8 hs8)
  refine bodyPost_ret (res_cell rfl k88 rfl Try.underlying91 rfl ax_info) rfl ?_
  exact ⟨rfl, below_of_gb hL6.bel hg8 (by omega) hL6.sz⟩
set_option maxRecDepth 100000 in
set_option maxHeartbeats 4000000 in
theorem over_any (g i : Nat) (s b : Int) (w : World) (h0 : w.cell? ⟨g, i, none⟩ = some (.int .i64 (hi6 s))) (h1 : w.cell? ⟨g, i + 1, none⟩ = some (.int .u64 (lo6 s))) (ha : Wq (s * 65536)) (hb : b ≠ 0) (hb2 : J64 b) :
    Calls Try.prog 55 #[.pointer (some ⟨g, i, none⟩), .int .i64 b] w fun e w' => e = .returned (.int .i64 (plc s b)) ∧ Below w.heap.size w w' := by
  have hP := fun w' => qplace_any s b w' ha hb hb2
  clear ha hb hb2
  generalize plc s b = p at *
  go_enter Try.func55, Try.ntmps55
  go_wp2_with fail
  refine (hP _).mono ?_
  rintro e w1 ⟨rfl, hb1⟩
  go_wp2_with fail
  go_returns
  exact ⟨rfl, hb1⟩
set_option maxRecDepth 100000 in
set_option maxHeartbeats 4000000 in
theorem astep_any (g i : Nat) (t : TypeId) (old : Array Value) (s k n : Int) (w : World) (hK : Bk w g t old) (hi : i + 3 ≤ old.size) (h0 : old[i]? = some (.int .i64 (hi6 s))) (h1 : old[i + 1]? = some (.int .u64 (lo6 s))) (h2 : old[i + 2]? = some (.int .i64 k))
    (jk : J64 k) (jn : J64 n) (ws : Wd s) (wk : Wd (k * n)) (wsk : Wd (s + k * n)) :
    Calls Try.prog 81 #[.pointer (some ⟨g, i, none⟩), .int .i64 n] w fun e w' => e = .returned (.tuple #[]) ∧ Bk w' g t ((old.setIfInBounds i (.int .i64 (hi6 (s + k * n)))).setIfInBounds (i + 1) (.int .u64 (lo6 (s + k * n)))) ∧ w.grownBy w' (some g) := by
  have hM := fun w' => wmul_any k n w' jk jn
  have hA := fun w' => wadd_any s (k * n) w' ws wk wsk
  clear jk jn ws wk wsk
  generalize s + k * n = z at *
  generalize k * n = m at *
  have c0 : w.cell? ⟨g, i, none⟩ = some (.int .i64 (hi6 s)) := by rw [hK.cell]; exact h0
  have c1 : w.cell? ⟨g, i + 1, none⟩ = some (.int .u64 (lo6 s)) := by rw [hK.cell]; exact h1
  have c2 : w.cell? ⟨g, i + 2, none⟩ = some (.int .i64 k) := by rw [hK.cell]; exact h2
  have q0 := fun (d : Nat) (os : Array Obj) => cell_regrown c0 d os
  have q1 := fun (d : Nat) (os : Array Obj) => cell_regrown c1 d os
  have q2 := fun (d : Nat) (os : Array Obj) => cell_regrown c2 d os
  have HI := Lib.hid hi
  clear h0 h1 h2 c0 c1 c2 hi
  go_enter Try.func81, Try.ntmps81
  go_upto_region 0 with fail
  refine wp_region_quiet_late1 13 10 (.tmp 0) (by kernel_rfl) rfl rfl (by kernel_rfl) (fun _ _ _ h => h) ?_
  simp only [List.take_succ_cons, List.take_zero]
  repeat (first | go_big_quiet_step ((first | with_reducible exact quiet_below (hM _) | with_reducible exact quiet_below (hA _))) | quiet_step ((first | with_reducible exact quiet_below (hM _) | with_reducible exact quiet_below (hA _))))
  refine wpQuiet_nil ?_
  intro _ hw'
  obtain ⟨⟨d9, os⟩, hw''⟩ := hw'
  subst hw''
  have hbx := below_regrown w d9 os
  generalize Go.Sort.grow (redrawn w d9) os = wx at *
  have kx := hK.nx hbx
  show wpAny _ _ _ _ 5 _ _ _
  refine wpAny_ext (i := 13) _ _ _ _ _ rfl rfl rfl rfl rfl rfl (by kernel_rfl) (by kernel_rfl) (by kernel_rfl) (fun _ _ _ h => h) ?_
  refine wpAny_ext (i := 14) _ _ _ _ _ rfl rfl rfl rfl rfl rfl (by kernel_rfl) (by kernel_rfl) (by kernel_rfl) (fun _ _ _ h => h) ?_
  refine wpAny_tail 15 rfl (by kernel_rfl) ?_
  simp only [Act.put, List.setIfInBounds_toArray, List.set_cons_zero, List.set_cons_succ, List.drop_succ_cons, List.drop_zero, List.getElem_toArray, List.getElem_cons_succ, List.getElem_cons_zero]
  go_wp2_with (refine st_two rfl _ _ _ rfl kx i (by have := HI.out; omega) (.int .i64 (hi6 z)) (.int .u64 (lo6 z)) rfl rfl wd_size rfl rfl ?_; intro w4 k4 hg4 hs4)
  go_end0
  exact ⟨rfl, k4, gb_trans (gb_of_below hbx) hg4 (fun g e => .inl e)⟩
end Go.Proofs.Ytebcienjeponmaa

namespace Go.Proofs.Ytebcienjeponmaa
open Go.RowKit
/-- A walk's cells. -/
abbrev wkA (x su gu sv gv sb gb : Int) : Array Value := #[.int .i64 x, .int .i64 (hi6 su), .int .u64 (lo6 su), .int .i64 gu, .int .i64 (hi6 sv), .int .u64 (lo6 sv), .int .i64 gv, .int .i64 (hi6 sb), .int .u64 (lo6 sb), .int .i64 gb, .bool true]
/-- While a step is made. -/
def wkK (x su gu sv gv sb gb n : Int) (k : Nat) : Array Value := match k with
  | 0 => wkA (x + n) su gu sv gv sb gb
  | 1 => wkA (x + n) (su + gu * n) gu sv gv sb gb
  | 2 => wkA (x + n) (su + gu * n) gu (sv + gv * n) gv sb gb
  | _ => wkA (x + n) (su + gu * n) gu (sv + gv * n) gv (sb + gb * n) gb
/-- The numbers have room for a step. -/
structure StOk (s k n : Int) : Prop where
  jk : J64 k
  ws : Wd s
  wk : Wd (k * n)
  wsk : Wd (s + k * n)
set_option maxRecDepth 100000 in
set_option maxHeartbeats 4000000 in
theorem wstep_any (g : Nat) (x su gu sv gv sb gb n : Int) (w : World) (hK : Bk w g 94 (wkA x su gu sv gv sb gb)) (jn : J64 n) (hx : -4611686018427387904 ≤ x + n ∧ x + n ≤ 4611686018427387904) (hu : StOk su gu n) (hv : StOk sv gv n) (hb : StOk sb gb n) :
    Calls Try.prog 53 #[.pointer (some ⟨g, 0, none⟩), .int .i64 n] w fun e w' => e = .returned (.tuple #[]) ∧ Bk w' g 94 (wkK x su gu sv gv sb gb n 3) ∧ w.grownBy w' (some g) := by
  have hc := hK.cell11
  obtain ⟨c0, c1, c2, c3, c4, c5, c6, c7, c8, c9, c10⟩ := hc
  have f0 := hK.frozen 0
  have hwx : IntKind.i64.wrap (x + n) = x + n := IntWalk.i64_in _ ⟨by omega, by omega⟩
  go_enter Try.func53, Try.ntmps53
  go_upto_region 1 with fail
  have hg0 := gb_set1 w ⟨g, 0, none⟩ (.int .i64 (x + n))
  have hK0 : Bk (w.setCell ⟨g, 0, none⟩ (.int .i64 (x + n))) g 94 (wkK x su gu sv gv sb gb n 0) := hK.set 0 _
  clear c0 c1 c2 c3 c4 c5 c6 c7 c8 c9 c10 f0 hwx hK
  generalize w.setCell ⟨g, 0, none⟩ (.int .i64 (x + n)) = w0 at *
  go_quiet (fail)
  replace hK0 := hK0.drewN nq
  replace hg0 : w.grownBy (w0.drewN nq) (some g) := gb_drewN hg0 nq
  generalize w0.drewN nq = w1 at *
  have ix0 : ∀ w', (Instr.index 126 (.agg #[.func (.func 81) #[.pointer (some ⟨g, 1, none⟩)] #[], .func (.func 81) #[.pointer (some ⟨g, 4, none⟩)] #[], .func (.func 81) #[.pointer (some ⟨g, 7, none⟩)] #[]]) (.int .i64 0)).run Try.prog w' = .ok (.func (.func 81) #[.pointer (some ⟨g, 1, none⟩)] #[]) w' := fun _ => rfl
  have ix1 : ∀ w', (Instr.index 126 (.agg #[.func (.func 81) #[.pointer (some ⟨g, 1, none⟩)] #[], .func (.func 81) #[.pointer (some ⟨g, 4, none⟩)] #[], .func (.func 81) #[.pointer (some ⟨g, 7, none⟩)] #[]]) (.int .i64 1)).run Try.prog w' = .ok (.func (.func 81) #[.pointer (some ⟨g, 4, none⟩)] #[]) w' := fun _ => rfl
  have ix2 : ∀ w', (Instr.index 126 (.agg #[.func (.func 81) #[.pointer (some ⟨g, 1, none⟩)] #[], .func (.func 81) #[.pointer (some ⟨g, 4, none⟩)] #[], .func (.func 81) #[.pointer (some ⟨g, 7, none⟩)] #[]]) (.int .i64 2)).run Try.prog w' = .ok (.func (.func 81) #[.pointer (some ⟨g, 7, none⟩)] #[]) w' := fun _ => rfl
  go_wp2_with fail
  go_loopw [5, 27] (fun _ kv wr => ∃ k : Nat, k ≤ 3 ∧ kv = .int .i64 k ∧ Bk wr g 94 (wkK x su gu sv gv sb gb n k) ∧ w.grownBy wr (some g)) (fun _ kv _ => 3 - (intOf kv).toNat)
  case atStart => exact ⟨0, by omega, rfl, hK0, hg0⟩
  case round =>
    clear hK0 hg0
    obtain ⟨k, hk, rfl, hK, hg⟩ := hrel
    by_cases hlt : k < 3
    · have h3 : k = 0 ∨ k = 1 ∨ k = 2 := by omega
      rcases h3 with rfl | rfl | rfl
      · have hS := fun (w' : World) (hk : Bk w' g 94 (wkK x su gu sv gv sb gb n 0)) => astep_any g 1 _ _ su gu n w' hk (by simp [wkK]) rfl rfl rfl hu.jk jn hu.ws hu.wk hu.wsk
        go_wp2_with (go_at_call 81; (with_reducible refine (hS _ (by exact hK)).mono ?_); rintro e w2 ⟨rfl, hK2, hg2⟩)
        exact ⟨⟨1, by omega, rfl, hK2, gb_trans hg hg2 (fun g e => .inl e)⟩, by simp [intOf]⟩
      · have hS := fun (w' : World) (hk : Bk w' g 94 (wkK x su gu sv gv sb gb n 1)) => astep_any g 4 _ _ sv gv n w' hk (by simp [wkK]) rfl rfl rfl hv.jk jn hv.ws hv.wk hv.wsk
        go_wp2_with (go_at_call 81; (with_reducible refine (hS _ (by exact hK)).mono ?_); rintro e w2 ⟨rfl, hK2, hg2⟩)
        exact ⟨⟨2, by omega, rfl, hK2, gb_trans hg hg2 (fun g e => .inl e)⟩, by simp [intOf]⟩
      · have hS := fun (w' : World) (hk : Bk w' g 94 (wkK x su gu sv gv sb gb n 2)) => astep_any g 7 _ _ sb gb n w' hk (by simp [wkK]) rfl rfl rfl hb.jk jn hb.ws hb.wk hb.wsk
        go_wp2_with (go_at_call 81; (with_reducible refine (hS _ (by exact hK)).mono ?_); rintro e w2 ⟨rfl, hK2, hg2⟩)
        exact ⟨⟨3, by omega, rfl, hK2, gb_trans hg hg2 (fun g e => .inl e)⟩, by simp [intOf]⟩
    · obtain rfl : k = 3 := by omega
      go_wp2_with fail
      go_end0
      exact ⟨rfl, hK, hg⟩
set_option maxRecDepth 100000 in
set_option maxHeartbeats 4000000 in
theorem wstep_d (g : Nat) (x su gu sv gv sb gb n : Int) (w : World) (u : FrameMode) (hK : Bk w g 94 (wkA x su gu sv gv sb gb)) (jn : J64 n) (hx : -4611686018427387904 ≤ x + n ∧ x + n ≤ 4611686018427387904) (hu : StOk su gu n) (hv : StOk sv gv n) (hb : StOk sb gb n) :
    CallsD Try.prog 53 #[.pointer (some ⟨g, 0, none⟩), .int .i64 n] u w fun e u' w' => u' = u ∧ (e = .returned (.tuple #[]) ∧ Bk w' g 94 (wkK x su gu sv gv sb gb n 3) ∧ w.grownBy w' (some g)) := by
  have hc := hK.cell11
  obtain ⟨c0, c1, c2, c3, c4, c5, c6, c7, c8, c9, c10⟩ := hc
  have f0 := hK.frozen 0
  have hwx : IntKind.i64.wrap (x + n) = x + n := IntWalk.i64_in _ ⟨by omega, by omega⟩
  go_enter_d Try.func53, Try.ntmps53
  go_upto_region 1 with fail
  have hg0 := gb_set1 w ⟨g, 0, none⟩ (.int .i64 (x + n))
  have hK0 : Bk (w.setCell ⟨g, 0, none⟩ (.int .i64 (x + n))) g 94 (wkK x su gu sv gv sb gb n 0) := hK.set 0 _
  clear c0 c1 c2 c3 c4 c5 c6 c7 c8 c9 c10 f0 hwx hK
  generalize w.setCell ⟨g, 0, none⟩ (.int .i64 (x + n)) = w0 at *
  go_quiet (fail)
  replace hK0 := hK0.drewN nq
  replace hg0 : w.grownBy (w0.drewN nq) (some g) := gb_drewN hg0 nq
  generalize w0.drewN nq = w1 at *
  have ix0 : ∀ w', (Instr.index 126 (.agg #[.func (.func 81) #[.pointer (some ⟨g, 1, none⟩)] #[], .func (.func 81) #[.pointer (some ⟨g, 4, none⟩)] #[], .func (.func 81) #[.pointer (some ⟨g, 7, none⟩)] #[]]) (.int .i64 0)).run Try.prog w' = .ok (.func (.func 81) #[.pointer (some ⟨g, 1, none⟩)] #[]) w' := fun _ => rfl
  have ix1 : ∀ w', (Instr.index 126 (.agg #[.func (.func 81) #[.pointer (some ⟨g, 1, none⟩)] #[], .func (.func 81) #[.pointer (some ⟨g, 4, none⟩)] #[], .func (.func 81) #[.pointer (some ⟨g, 7, none⟩)] #[]]) (.int .i64 1)).run Try.prog w' = .ok (.func (.func 81) #[.pointer (some ⟨g, 4, none⟩)] #[]) w' := fun _ => rfl
  have ix2 : ∀ w', (Instr.index 126 (.agg #[.func (.func 81) #[.pointer (some ⟨g, 1, none⟩)] #[], .func (.func 81) #[.pointer (some ⟨g, 4, none⟩)] #[], .func (.func 81) #[.pointer (some ⟨g, 7, none⟩)] #[]]) (.int .i64 2)).run Try.prog w' = .ok (.func (.func 81) #[.pointer (some ⟨g, 7, none⟩)] #[]) w' := fun _ => rfl
  go_wp2_with fail
  go_loopw [5, 27] (fun _ kv wr => ∃ k : Nat, k ≤ 3 ∧ kv = .int .i64 k ∧ Bk wr g 94 (wkK x su gu sv gv sb gb n k) ∧ w.grownBy wr (some g)) (fun _ kv _ => 3 - (intOf kv).toNat)
  case atStart => exact ⟨0, by omega, rfl, hK0, hg0⟩
  case round =>
    clear hK0 hg0
    obtain ⟨k, hk, rfl, hK, hg⟩ := hrel
    by_cases hlt : k < 3
    · have h3 : k = 0 ∨ k = 1 ∨ k = 2 := by omega
      rcases h3 with rfl | rfl | rfl
      · have hS := fun (w' : World) (hk : Bk w' g 94 (wkK x su gu sv gv sb gb n 0)) => astep_any g 1 _ _ su gu n w' hk (by simp [wkK]) rfl rfl rfl hu.jk jn hu.ws hu.wk hu.wsk
        go_wp2_with (go_at_call 81; (with_reducible refine (hS _ (by exact hK)).mono ?_); rintro e w2 ⟨rfl, hK2, hg2⟩)
        exact ⟨⟨1, by omega, rfl, hK2, gb_trans hg hg2 (fun g e => .inl e)⟩, by simp [intOf]⟩
      · have hS := fun (w' : World) (hk : Bk w' g 94 (wkK x su gu sv gv sb gb n 1)) => astep_any g 4 _ _ sv gv n w' hk (by simp [wkK]) rfl rfl rfl hv.jk jn hv.ws hv.wk hv.wsk
        go_wp2_with (go_at_call 81; (with_reducible refine (hS _ (by exact hK)).mono ?_); rintro e w2 ⟨rfl, hK2, hg2⟩)
        exact ⟨⟨2, by omega, rfl, hK2, gb_trans hg hg2 (fun g e => .inl e)⟩, by simp [intOf]⟩
      · have hS := fun (w' : World) (hk : Bk w' g 94 (wkK x su gu sv gv sb gb n 2)) => astep_any g 7 _ _ sb gb n w' hk (by simp [wkK]) rfl rfl rfl hb.jk jn hb.ws hb.wk hb.wsk
        go_wp2_with (go_at_call 81; (with_reducible refine (hS _ (by exact hK)).mono ?_); rintro e w2 ⟨rfl, hK2, hg2⟩)
        exact ⟨⟨3, by omega, rfl, hK2, gb_trans hg hg2 (fun g e => .inl e)⟩, by simp [intOf]⟩
    · obtain rfl : k = 3 := by omega
      go_wp2_with fail
      go_end0
      exact ⟨rfl, hK, hg⟩
end Go.Proofs.Ytebcienjeponmaa

namespace Go.Proofs.Ytebcienjeponmaa
open Go.RowKit
/-- A walk that stands at a column of a row. -/
def wkT (a : Nat → Int) (x y : Int) : Array Value := wkA x (smR (a 0) (a 1) (a 2) x y 1) (a 0) (smR (a 3) (a 4) (a 5) x y 1) (a 3) (smR (a 6) (a 7) (a 8) x y 1) (a 6)
theorem smR_step (p q r x y n : Int) : smR p q r x y 1 + p * n = smR p q r (x + n) y 1 := by
  unfold smR
  rw [Int.mul_add]; omega
theorem wkK_3 (a : Nat → Int) (x y n : Int) : wkK x (smR (a 0) (a 1) (a 2) x y 1) (a 0) (smR (a 3) (a 4) (a 5) x y 1) (a 3) (smR (a 6) (a 7) (a 8) x y 1) (a 6) n 3 = wkT a (x + n) y := by
  simp only [wkK, wkT, smR_step]
/-- Where a walk may stand. -/
structure WkOk (a : Nat → Int) (x y : Int) : Prop where
  ad : AdOk a
  x0 : -1048576 ≤ x
  x1 : x ≤ 1048577
  y0 : -1048576 ≤ y
  y1 : y ≤ 1048576
theorem ln_st {p q r x y n : Int} (h : LnOk p q r) (hx : -1048577 ≤ x ∧ x ≤ 1048577) (hy : -1048576 ≤ y ∧ y ≤ 1048576) (hn : 0 ≤ n ∧ n ≤ 4194304) : StOk (smR p q r x y 1) p n := by
  obtain ⟨b0, b1⟩ := mulbd h.x0 h.x1 (show -1048577 ≤ x by omega) hx.2
  obtain ⟨b2, b3⟩ := mulbd h.y0 h.y1 hy.1 hy.2
  obtain ⟨b4, b5⟩ := mulbd h.x0 h.x1 (show -4194304 ≤ n by omega) hn.2
  have := h.x0
  have := h.x1
  have := h.z0
  have := h.z1
  refine ⟨⟨by omega, by omega⟩, ?_, ⟨by omega, by omega⟩, ?_⟩
  · unfold Wd smR; omega
  · unfold Wd smR; omega
theorem results_tmp3 {P : Program} {fn : Func} {p q r : Tmp} (h : fn.results = #[.tmp p, .tmp q, .tmp r]) (tmps : Array Value) (w : World) : (results fn tmps).run P w = .ok (.tuple #[tmps.getD p undef, tmps.getD q undef, tmps.getD r undef]) w := by
  simp [results, h]
theorem next_nil (w : World) : Calls Try.prog 27 #[.pointer none] w fun e w' => e = .returned (.tuple #[.int .i64 0, .int .i64 0, .int .i64 10]) ∧ w = w' := by
  go_enter_defers Try.func27, Try.ntmps27
  go_wp2_with fail
  exact ⟨_, results_tmp3 rfl _ _, rfl, rfl⟩
set_option maxRecDepth 100000 in
set_option maxHeartbeats 4000000 in
theorem next_far (a : Nat → Int) (g : Nat) (x y : Int) (w : World) (hK : Bk w g 94 (wkT a x y)) (hx : 1048576 < x) :
    Calls Try.prog 27 #[.pointer (some ⟨g, 0, none⟩)] w fun e w' => e = .returned (.tuple #[.int .i64 0, .int .i64 0, .int .i64 11]) ∧ w = w' := by
  obtain ⟨c0, c1, c2, c3, c4, c5, c6, c7, c8, c9, c10⟩ := hK.cell11
  go_enter_defers Try.func27, Try.ntmps27
  go_wp2_with fail
  exact ⟨_, results_tmp3 rfl _ _, rfl, rfl⟩
set_option maxRecDepth 100000 in
set_option maxHeartbeats 4000000 in
theorem next_any (a : Nat → Int) (g : Nat) (x y : Int) (w : World) (hK : Bk w g 94 (wkT a x y)) (h : WkOk a x y) (hx : x ≤ 1048576) :
    Calls Try.prog 27 #[.pointer (some ⟨g, 0, none⟩)] w fun e w' => e = .returned (.tuple #[.int .i64 (atX a x y 1), .int .i64 (atY a x y 1), .int .i64 (atE a x y 1)]) ∧ Bk w' g 94 (wkT a (x + 1) y) ∧ w.grownBy w' (some g) := by
  have hp : rightH x y 1 = true := rightH_iff.2 ⟨⟨h.x0, hx⟩, ⟨h.y0, h.y1⟩, by omega, by omega⟩
  have x0 := h.x0
  have su := ln_st h.ad.u (x := x) (y := y) (n := 1) ⟨by have := h.x0; omega, h.x1⟩ ⟨h.y0, h.y1⟩ (by omega)
  have sv := ln_st h.ad.v (x := x) (y := y) (n := 1) ⟨by have := h.x0; omega, h.x1⟩ ⟨h.y0, h.y1⟩ (by omega)
  have sb := ln_st h.ad.s (x := x) (y := y) (n := 1) ⟨by have := h.x0; omega, h.x1⟩ ⟨h.y0, h.y1⟩ (by omega)
  have hD := fun (w' : World) (hk : Bk w' g 94 (wkT a x y)) => wstep_d g x _ (a 0) _ (a 3) _ (a 6) 1 w' .returning hk (by unfold J64; omega) (by omega) su sv sb
  rw [wkK_3] at hD
  have hK0 := hK
  obtain ⟨c0, c1, c2, c3, c4, c5, c6, c7, c8, c9, c10⟩ := hK.cell11
  have hu : undR a x y 1 = smR (a 6) (a 7) (a 8) x y 1 := by unfold undR smR; rw [if_pos hp]
  have hj := und_j64 (px := x) (py := y) (d := 1) h.ad
  have q1 := sm_wq h.ad.u hp
  have q2 := sm_wq h.ad.v hp
  rw [← hu] at c7 c8
  have hF := fun w' => fits64_yes (undR a x y 1) w' hj
  clear su sv sb
  by_cases hz : undR a x y 1 = 0
  · have E1 : atX a x y 1 = 0 := by simp [atX, hz]
    have E2 : atY a x y 1 = 0 := by simp [atY, hz]
    have E3 : atE a x y 1 = 41 := by simp [atE, hp, hz]
    rw [E1, E2, E3]
    rw [hz] at hF c7 c8
    clear E1 E2 E3 hp hu hz hj q1 q2 h
    go_enter_defers Try.func27, Try.ntmps27
    go_wp2_with fail
    refine (hF _).mono ?_
    rintro e w1 ⟨rfl, hb1⟩
    replace hK := hK.nx hb1
    clear c0 c1 c2 c3 c4 c5 c6 c7 c8 c9 c10
    go_wp2_with fail
    refine leaves_cons (f := 53) (args := #[.pointer (some ⟨g, 0, none⟩), .int .i64 1]) (by simp) (by simp [go_sem]) ?_
    refine (hD _ hK).mono ?_
    rintro e u' w2 ⟨rfl, rfl, hK2, hg2⟩
    exact ⟨_, results_tmp3 rfl _ _, rfl, hK2, gb_trans (gb_of_below hb1) hg2 (fun g e => .inl e)⟩
  · have E1 : atX a x y 1 = plc (smR (a 0) (a 1) (a 2) x y 1) (undR a x y 1) := by simp [atX, hp, hz]
    have E2 : atY a x y 1 = plc (smR (a 3) (a 4) (a 5) x y 1) (undR a x y 1) := by simp [atY, hp, hz]
    have E3 : atE a x y 1 = 0 := by simp [atE, hp, hz]
    rw [E1, E2, E3]
    have hV1 := fun (w' : World) (hk : Bk w' g 94 (wkT a x y)) => over_any g 1 (smR (a 0) (a 1) (a 2) x y 1) (undR a x y 1) w' (hk.cell11).2.1 (hk.cell11).2.2.1 q1 hz hj
    have hV2 := fun (w' : World) (hk : Bk w' g 94 (wkT a x y)) => over_any g 4 (smR (a 3) (a 4) (a 5) x y 1) (undR a x y 1) w' (hk.cell11).2.2.2.2.1 (hk.cell11).2.2.2.2.2.1 q2 hz hj
    have hzb : (undR a x y 1 == 0) = false := by simpa using hz
    clear E1 E2 E3 hp hu hz hj q1 q2 h
    generalize plc (smR (a 0) (a 1) (a 2) x y 1) (undR a x y 1) = p1 at *
    generalize plc (smR (a 3) (a 4) (a 5) x y 1) (undR a x y 1) = p2 at *
    generalize undR a x y 1 = u at *
    go_enter_defers Try.func27, Try.ntmps27
    go_wp2_with fail
    refine (hF _).mono ?_
    rintro e w1 ⟨rfl, hb1⟩
    replace hK := hK.nx hb1
    clear c0 c1 c2 c3 c4 c5 c6 c7 c8 c9 c10
    go_upto_region 9 with fail
    have hW1 := fun (n : Nat) (os : Array Obj) => hV1 (Go.Sort.grow (redrawn w1 n) os) (hK.nx (below_regrown w1 n os))
    have hW2 := fun (n : Nat) (os : Array Obj) => hV2 (Go.Sort.grow (redrawn w1 n) os) (hK.nx (below_regrown w1 n os))
    refine wp_region_quiet_below (by kernel_rfl) (by kernel_rfl) ?_
    repeat (first | go_big_quiet_step ((first | with_reducible exact quiet_below (hW1 _ _) | with_reducible exact quiet_below (hW2 _ _))) | quiet_step ((first | with_reducible exact quiet_below (hW1 _ _) | with_reducible exact quiet_below (hW2 _ _))))
    refine wpQuiet_nil ?_
    intro _ hw'
    obtain ⟨⟨d9, os⟩, hw''⟩ := hw'
    subst hw''
    have hbx := below_regrown w1 d9 os
    replace hb1 := hb1.trans (hbx.mono hb1.size)
    replace hK := hK.nx hbx
    clear hW1 hW2 hV1 hV2
    generalize Go.Sort.grow (redrawn w1 d9) os = wx at *
    go_wp2_with fail
    refine leaves_cons (f := 53) (args := #[.pointer (some ⟨g, 0, none⟩), .int .i64 1]) (by simp) (by simp [go_sem]) ?_
    refine (hD _ hK).mono ?_
    rintro e u' w2 ⟨rfl, rfl, hK2, hg2⟩
    exact ⟨_, results_tmp3 rfl _ _, rfl, hK2, gb_trans (gb_of_below hb1) hg2 (fun g e => .inl e)⟩
end Go.Proofs.Ytebcienjeponmaa
