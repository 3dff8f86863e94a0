/- boxes: of a part of an image, by a map whose least and greatest stand at corners. -/
import Derived.Test.YtlbiiljncacdoaaGreatBx3
set_option linter.unusedVariables false
namespace Go.Proofs.YtlbiiljncacdoaaGreat
open Go.RowKit
attribute [local go_sem high] run_maxM run_minM
/-- What a map answers: in every world in which the blocks from lo to hi lie as in w. -/
def MapFn (lo hi : Nat) (w : World) (p : Option Addr) (F G E : Int → Int → Int → Int) : Prop :=
  ∀ w' : World, hi ≤ w'.heap.size → (∀ i, lo ≤ i → i < hi → w'.heap[i]? = w.heap[i]?) → ∀ x y d, Calls Tryz.prog 24 #[.pointer p, .int .i64 x, .int .i64 y, .int .i64 d] w' fun e w'' => e = .returned (.tuple #[.int .i64 (F x y d), .int .i64 (G x y d), .int .i64 (E x y d)]) ∧ Below w'.heap.size w' w''
theorem MapFn.at {lo : Nat} {w w' : World} {p : Option Addr} {F G E : Int → Int → Int → Int} (h : MapFn lo w.heap.size w p F G E) (hb : Below w.heap.size w w') (x y d : Int) :
    Calls Tryz.prog 24 #[.pointer p, .int .i64 x, .int .i64 y, .int .i64 d] w' fun e w'' => e = .returned (.tuple #[.int .i64 (F x y d), .int .i64 (G x y d), .int .i64 (E x y d)]) ∧ Below w'.heap.size w' w'' :=
  h w' hb.size (fun i _ hi => hb.block i hi) x y d
/-- What xform.New answers of a transform: its code C, and, if that is 0, a map that answers F, G, E. -/
def NewIs (k : Int) (A : Option Addr) (sn cp : Nat) (W H : Int) (w : World) (C : Int) (F G E : Int → Int → Int → Int) : Prop :=
  ∀ w', Below w.heap.size w w' → Calls Tryz.prog 21 #[.agg #[.int .i64 k, .slice A sn cp], .int .i64 W, .int .i64 H] w' fun e w'' => ∃ p, e = .returned (.tuple #[.pointer p, .int .i64 C]) ∧ (C ≠ 0 → p = none) ∧ (C = 0 → MapFn w'.heap.size w''.heap.size w'' p F G E) ∧ Below w'.heap.size w' w''
theorem NewIs.nx {k : Int} {A : Option Addr} {sn cp : Nat} {W H : Int} {w w' : World} {C : Int} {F G E : Int → Int → Int → Int} (h : NewIs k A sn cp W H w C F G E) (hb : Below w.heap.size w w') : NewIs k A sn cp W H w' C F G E :=
  fun w'' hb' => h w'' (hb.trans (hb'.mono hb.size))
theorem Bk.cell1c {w : World} {g : Nat} {t : TypeId} {x y : Value} (h : Bk w g t #[x, y]) : w.cell? ⟨g, 0, none⟩ = some x := h.cell2.1
theorem whole_in {a b c d W H : Int} (h : ¬ rc_emptyR a b c d) (hW : 1 ≤ W ∧ W ≤ 32768) (hH : 1 ≤ H ∧ H ≤ 32768) (ha : 0 ≤ a) (hb : 0 ≤ b) (hc : c ≤ W) (hd : d ≤ H) : bothR a b c d 0 0 W H = (a, b, c, d) := by
  have e1 : max a 0 = a := by omega
  have e2 : max b 0 = b := by omega
  have e3 : min c W = c := by omega
  have e4 : min d H = d := by omega
  unfold bothR
  rw [e1, e2, e3, e4, if_neg]
  rintro (h1 | h1 | h1)
  · exact h h1
  · simp only [rc_emptyR, rc_rightR, rc_inR] at h1; omega
  · exact h h1
set_option maxRecDepth 100000 in
set_option maxHeartbeats 8000000 in
theorem bof_corner (k : Int) (A : Option Addr) (sn cp : Nat) (W H a b c d n : Int) (F G E : Int → Int → Int → Int) (w : World) (hN : NewIs k A sn cp W H w 0 F G E) (hk : k ≠ 3 ∧ k ≠ 4 ∧ k ≠ 5)
    (hW : 1 ≤ W ∧ W ≤ 32768) (hH : 1 ≤ H ∧ H ≤ 32768) (hr : ¬ rc_emptyR a b c d) (ha : 0 ≤ a) (hb : 0 ≤ b) (hc : c ≤ W) (hd : d ≤ H) (hn : 0 ≤ n ∧ n ≤ 8) :
    Calls Tryz.prog 48 #[.agg #[.int .i64 k, .slice A sn cp], .int .i64 W, .int .i64 H, rc_rect4 a b c d, .int .i64 n] w fun e w' =>
      e = .returned (.tuple #[rc_rect4 (coU (fun x y => F x y (paD n)) (paF n a) (paF n b) (paL n (c - 1)) (paL n (d - 1))) (coU (fun x y => G x y (paD n)) (paF n a) (paF n b) (paL n (c - 1)) (paL n (d - 1))) (coV (fun x y => F x y (paD n)) (paF n a) (paF n b) (paL n (c - 1)) (paL n (d - 1))) (coV (fun x y => G x y (paD n)) (paF n a) (paF n b) (paL n (c - 1)) (paL n (d - 1))), .int .i64 0]) ∧ Below w.heap.size w w' := by
  have hL := (((Lie.start w).alloc #[.int .i64 k, .slice A sn cp] 31).alloc (rc_rectA a b c d) 78).alloc (rc_rectA 0 0 0 0) 83
  simp only [World.size_alloc] at hL
  have k5 := hL.k 2 (by simp)
  have k8 := hL.k 1 (by simp)
  have k10 := hL.k 0 (by simp)
  simp only [List.getElem_cons_zero, List.getElem_cons_succ] at k5 k8 k10
  have hac : a < c ∧ b < d := by simp only [rc_emptyR, rc_rightR, rc_inR] at hr; omega
  have hEm := fun w' => rc_empty_any a b c d w'
  rw [show decide (rc_emptyR a b c d) = false from decide_eq_false hr] at hEm
  have hIn := fun w' => rcin_any a b c d 0 0 W H w' hr
  rw [show decide (bothR a b c d 0 0 W H = (a, b, c, d)) = true from decide_eq_true (whole_in hr hW hH ha hb hc hd)] at hIn
  have hCo := fun (p : Option Addr) (w' : World) hA => corners_any p a b c d n (fun x y => F x y (paD n)) (fun x y => G x y (paD n)) (fun x y => E x y (paD n)) w' hn (by omega) (by omega) (by omega) (by omega) hA
  obtain ⟨hk3, hk4, hk5⟩ := hk
  have b3 : (k == 3) = false := by simp [hk3]
  have b4 : (k == 4) = false := by simp [hk4]
  have b5 : (k == 5) = false := by simp [hk5]
  obtain ⟨hn0, hn8⟩ := hn
  clear hk3 hk4 hk5 hr ha hb hc hd hac hW hH
  go_enter Tryz.func48, Tryz.ntmps48
  go_wp2_with fail
  replace hN := hN _ hL.bel
  generalize hw1 : (((w.alloc (.cells #[.int .i64 k, .slice A sn cp] 31)).alloc (.cells (rc_rectA a b c d) 78)).alloc (.cells (rc_rectA 0 0 0 0) 83)) = w1 at *
  clear hw1
  refine hN.mono ?_
  rintro e w2 ⟨p, rfl, _, hM, hb2⟩
  replace hM := hM rfl
  have hL2 := hL.nx hb2
  have k82 := k8.nx hb2
  have k52 := k5.nx hb2
  have k102 := k10.nx hb2
  clear hN k5 k8 k10 hL
  obtain ⟨g0, g1, g2, g3⟩ := k82.cell4
  go_wp2_with (first
    | (refine rc_ldRect rfl _ rfl k82 rfl ?_)
    | (refine rc_ldRect rfl _ rfl k84 rfl ?_)
    | (go_at_call 109; (with_reducible refine (hEm _).mono ?_); rintro e w3 ⟨rfl, hb3⟩; have k83 := k82.nx hb3; have q3 := k83.cell4; obtain ⟨f0, f1, f2, f3⟩ := q3; have hL3 := hL2.nx hb3)
    | (go_at_call 110; (with_reducible refine (hIn _).mono ?_); rintro e w4 ⟨rfl, hb4⟩; have k84 := k83.nx hb4; have k54 := (k52.nx hb3).nx hb4; have hL4 := hL3.nx hb4; have k104 := (k102.nx hb3).nx hb4)
    | (refine stB (ty := 162) (cells := paA p a b c d n) rfl _ _ rfl (Bk.new w4 162 (paA none 0 0 0 0 0)) rfl rfl pa_size rfl (by simp [Value.oneCell']) ?_; intro w5 k145 hg5 hs5; have hb5 : Below w4.heap.size w4 w5 := below_grown ((Below.refl w4.heap.size w4).alloc (Nat.le_refl _) (.cells (paA none 0 0 0 0 0) 162)) hg5 (Nat.le_refl _) (by simp); have hL5 := hL4.nx hb5; have k55 := k54.nx hb5; have k105 := k104.nx hb5; have q5 := k55.cell1c; have hb25 := (hb3.trans (hb4.mono hb3.size)).trans (hb5.mono (Nat.le_trans hb3.size hb4.size)))
    | (refine ldB rfl _ _ rfl k145 rfl Tryz.underlying162 rfl pa_size ?_)
    | (go_at_call 113; (with_reducible refine (hCo p _ (fun x y w'' hb => hM.at (hb25.trans (hb.mono hb25.size)) x y (paD n))).mono ?_); rintro e w6 ⟨rfl, hb6⟩; have hL6 := hL5.nx hb6; have k106 := k105.nx hb6)
    | (refine stB (ty := 83) rfl _ _ rfl k106 _ rfl rfl bx_size rfl (by simp [Value.oneCell']) ?_; intro w7 k107 hg7 hs7))
  refine bodyPost_ret (res_cell_tmp rfl k107 rfl Tryz.underlying83 rfl bx_size) rfl ?_
  exact ⟨rfl, below_of_gb hL6.bel hg7 (by omega) hL6.sz⟩
end Go.Proofs.YtlbiiljncacdoaaGreat
