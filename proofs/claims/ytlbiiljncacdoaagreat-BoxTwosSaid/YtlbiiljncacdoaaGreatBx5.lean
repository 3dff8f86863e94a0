/- What xform.New answers of an affine transform; boxes: has, in another image; the chapter's example. -/
import Derived.Test.YtlbiiljncacdoaaGreatBx4
import Derived.Test.YtlbiiljncacdoaaGreatMe5
set_option linter.unusedVariables false
namespace Go.Proofs.YtlbiiljncacdoaaGreat
open Go.RowKit
attribute [local go_sem high] run_maxM run_minM
theorem Bk.same {w w' : World} {g : Nat} {t : TypeId} {cs : Array Value} (h : Bk w g t cs) (e : w'.heap[g]? = w.heap[g]?) : Bk w' g t cs := e.trans h
theorem newIs_aff (l : List Int) (A : Option Addr) (n cp : Nat) (W H : Int) (w : World) (hl : l.length = n) (hr : Rd w w.heap.size A (l.map (Value.int .i64))) (hs : szH W H = true) :
    NewIs 1 A n cp W H w (afC l) (afX l) (afY l) afE := by
  intro w' hb
  refine (xnew_aff l A n cp W H w' hl ((hr.below hb).more hb.size) hs).mono ?_
  rintro e w'' ⟨p, rfl, h1, h2, hb2⟩
  refine ⟨p, rfl, h1, fun hz => ?_, hb2⟩
  obtain ⟨q, g, rfl, hq, hM, hg, hG⟩ := h2 hz
  intro w3 hs3 hk x y d
  have hok := afC_zero.1 hz
  exact xat_aff l q g 1 W H x y d w3 (hM.same (hk q hq hM.lt)) (hG.same (hk g hg hG.lt)) hok.1 hok.2
theorem sz99 : szH 9 9 = true := by decide +kernel
theorem al37_box : (coU (fun x y => afX unL x y (paD 0)) (paF 0 1) (paF 0 2) (paL 0 (4 - 1)) (paL 0 (5 - 1)) = 65536 ∧ coU (fun x y => afY unL x y (paD 0)) (paF 0 1) (paF 0 2) (paL 0 (4 - 1)) (paL 0 (5 - 1)) = 131072) ∧ (coV (fun x y => afX unL x y (paD 0)) (paF 0 1) (paF 0 2) (paL 0 (4 - 1)) (paL 0 (5 - 1)) = 196608 ∧ coV (fun x y => afY unL x y (paD 0)) (paF 0 1) (paF 0 2) (paL 0 (4 - 1)) (paL 0 (5 - 1)) = 262144) := by decide +kernel
theorem al37_e : ¬ rc_emptyR 1 2 4 5 := by decide
set_option maxRecDepth 100000 in
set_option maxHeartbeats 4000000 in
theorem alive37 (w : World) : Calls Tryz.prog 50 #[] w fun e w' => e = .returned (.bool true) ∧ Below w.heap.size w w' := by
  have hq := eql_box 65536 131072 196608 262144 65536 131072 196608 262144
  rw [show decide (((65536 : Int), (131072 : Int), (196608 : Int), (262144 : Int)) = (65536, 131072, 196608, 262144)) = true from rfl] at hq
  go_enter Tryz.func50, Tryz.ntmps50
  go_wp2_with fail
  refine (whole_yes 9 9 w sz99).mono ?_
  rintro e w1 ⟨b, rfl, hU, hb1⟩
  have hrd : Rd w1 w1.heap.size (some ⟨b, 0, none⟩) (unL.map (Value.int .i64)) := Bk.rdl (l := unL.map (Value.int .i64)) hU
  have hN := newIs_aff unL (some ⟨b, 0, none⟩) 6 6 9 9 w1 rfl hrd sz99
  rw [un_C5] at hN
  have hO := bof_corner 1 (some ⟨b, 0, none⟩) 6 6 9 9 1 2 4 5 0 (afX unL) (afY unL) afE w1 hN (by decide) (by decide) (by decide) al37_e (by decide) (by decide) (by decide) (by decide) (by decide)
  obtain ⟨⟨z1, z2⟩, z3, z4⟩ := al37_box
  rw [z1, z2, z3, z4] at hO
  clear hN hrd hU z1 z2 z3 z4
  go_wp2_with fail
  refine hO.mono ?_
  rintro e w2 ⟨rfl, hb2⟩
  have hb3 := (hb1.trans (hb2.mono hb1.size)).alloc (Nat.le_trans hb1.size hb2.size) (.cells (rc_rectA 65536 131072 196608 262144) 83)
  go_wp2_with fail
  go_returns
  exact ⟨rfl, hb3⟩
def bxHas (a b c d u v : Int) : Bool := decide (a ≤ u ∧ u ≤ c ∧ b ≤ v ∧ v ≤ d)
set_option maxRecDepth 100000 in
set_option maxHeartbeats 4000000 in
theorem bxhas_any (a b c d u v : Int) (w : World) : Calls Tryz.prog 53 #[rc_rect4 a b c d, .int .i64 u, .int .i64 v] w fun e w' => e = .returned (.bool (bxHas a b c d u v)) ∧ Below w.heap.size w w' := by
  have hb := (Below.refl w.heap.size w).alloc (Nat.le_refl _) (.cells (rc_rectA a b c d) 83)
  have hc : (u < a ∧ Hid (bxHas a b c d u v = false)) ∨ (a ≤ u ∧ c < u ∧ Hid (bxHas a b c d u v = false)) ∨ (a ≤ u ∧ u ≤ c ∧ v < b ∧ Hid (bxHas a b c d u v = false)) ∨ (a ≤ u ∧ u ≤ c ∧ b ≤ v ∧ Hid (bxHas a b c d u v = decide (v ≤ d))) := by
    unfold bxHas Hid
    by_cases h1 : a ≤ u <;> by_cases h2 : u ≤ c <;> by_cases h3 : b ≤ v <;> simp [h1, h2, h3] <;> omega
  rcases hc with ⟨h1, HE⟩ | ⟨h1, h2, HE⟩ | ⟨h1, h2, h3, HE⟩ | ⟨h1, h2, h3, HE⟩
  all_goals
    go_enter Tryz.func53, Tryz.ntmps53
    go_wp2_with fail
    go_returns
    exact ⟨by rw [HE.out]; rfl, hb⟩
set_option maxRecDepth 100000 in
set_option maxHeartbeats 4000000 in
theorem bxto_any (a b c d k : Int) (w : World) (ha : -70368744177664 ≤ a ∧ a ≤ 70368744177664) (hb : -70368744177664 ≤ b ∧ b ≤ 70368744177664) (hc : -70368744177664 ≤ c ∧ c ≤ 70368744177664) (hd : -70368744177664 ≤ d ∧ d ≤ 70368744177664) :
    Calls Tryz.prog 57 #[rc_rect4 a b c d, .int .i64 k] w fun e w' => e = .returned (rc_rect4 (lvTo a k) (lvTo b k) (lvTo c k) (lvTo d k)) ∧ Below w.heap.size w w' := by
  have hL := ((Lie.start w).alloc (rc_rectA a b c d) 83).alloc (rc_rectA 0 0 0 0) 83
  simp only [World.size_alloc] at hL
  have k2 := hL.k 1 (by simp)
  have k4 := hL.k 0 (by simp)
  simp only [List.getElem_cons_zero, List.getElem_cons_succ] at k2 k4
  have hA := fun w' => lv_to_any a k w' ha.1 ha.2
  have hB := fun w' => lv_to_any b k w' hb.1 hb.2
  have hC := fun w' => lv_to_any c k w' hc.1 hc.2
  have hD := fun w' => lv_to_any d k w' hd.1 hd.2
  clear ha hb hc hd
  generalize lvTo a k = A at *
  generalize lvTo b k = B at *
  generalize lvTo c k = C at *
  generalize lvTo d k = D at *
  go_enter Tryz.func57, Tryz.ntmps57
  go_wp2_with fail
  generalize hw1 : (w.alloc (.cells (rc_rectA a b c d) 83)).alloc (.cells (rc_rectA 0 0 0 0) 83) = w1 at *
  clear hw1
  obtain ⟨d0, d1, d2, d3⟩ := k2.cell4
  have r0 := fun (n : Nat) (os : Array Obj) => cell_regrown d0 n os
  have r1 := fun (n : Nat) (os : Array Obj) => cell_regrown d1 n os
  have r2 := fun (n : Nat) (os : Array Obj) => cell_regrown d2 n os
  have r3 := fun (n : Nat) (os : Array Obj) => cell_regrown d3 n os
  refine wp_region_quiet_tail 17 (by kernel_rfl) (by kernel_rfl) ?_
  simp only [List.take_succ_cons, List.take_zero, List.drop_succ_cons, List.drop_zero]
  repeat (first
    | go_big_quiet_step ((first | with_reducible exact quiet_eq (hA _) | with_reducible exact quiet_eq (hB _) | with_reducible exact quiet_eq (hC _) | with_reducible exact quiet_eq (hD _)))
    | quiet_step ((first | with_reducible exact quiet_eq (hA _) | with_reducible exact quiet_eq (hB _) | with_reducible exact quiet_eq (hC _) | with_reducible exact quiet_eq (hD _))))
  refine wpQuiet_nil ?_
  intro _ hw'
  obtain ⟨⟨dd, os⟩, hw''⟩ := hw'
  subst hw''
  have hbx := below_regrown w1 dd os
  generalize Go.Sort.grow (redrawn w1 dd) os = wx at *
  have hLx := hL.nx hbx
  have k4x := k4.nx hbx
  clear r0 r1 r2 r3 hA hB hC hD
  go_wp2_with (refine stB (ty := 83) (cells := rc_rectA A B C D) rfl _ _ rfl k4x rfl rfl bx_size rfl (by simp [Value.oneCell']) ?_; intro w2 k42 hg2 hs2)
  refine bodyPost_ret (res_cell rfl k42 rfl Tryz.underlying83 rfl bx_size) rfl ?_
  exact ⟨rfl, below_of_gb hLx.bel hg2 (by omega) hLx.sz⟩
end Go.Proofs.YtlbiiljncacdoaaGreat
