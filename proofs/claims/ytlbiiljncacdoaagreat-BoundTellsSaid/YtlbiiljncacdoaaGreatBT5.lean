/- The law BoundTells: the walk. -/
import Derived.Test.YtlbiiljncacdoaaGreatBT4
set_option linter.unusedVariables false
namespace Go.Proofs.YtlbiiljncacdoaaGreat
open Go.RowKit
theorem alive25_any (w : World) : Calls Tryz.prog 42 #[] w fun e w' => e = .returned (.bool true) ∧ Below w.heap.size w w' := by
  have hW := worst_any 6
  rw [show woX 6 = 1 by decide +kernel, show woY 6 = 1 by decide +kernel] at hW
  go_enter Tryz.func42, Tryz.ntmps42
  go_wp2_with (first
    | (go_at_call 39; (with_reducible refine (hW _).mono ?_); rintro e w1 ⟨rfl, hb1⟩))
  go_returns
  exact ⟨rfl, hb1⟩
set_option maxRecDepth 100000 in
set_option maxHeartbeats 16000000 in
theorem walkBoundTells (k : Int) (A : Option Addr) (n cp : Nat) (W H C X Y a b : Int) (ex : Bool) (w : World)
    (hO : n ≤ 9000 → ∀ w' : World, Below w.heap.size w w' → Calls Tryz.prog 37 #[xfV k A n cp, .int .i64 W, .int .i64 H] w' fun e w'' => e = .returned (.tuple #[.int .i64 X, .int .i64 Y, .int .i64 C]) ∧ Below w'.heap.size w' w'')
    (hR : n ≤ 9000 → ∀ w' : World, Below w.heap.size w w' → Calls Tryz.prog 38 #[xfV k A n cp, .int .i64 W, .int .i64 H] w' fun e w'' => e = .returned (.tuple #[.int .i64 X, .int .i64 Y, .int .i64 C]) ∧ Below w'.heap.size w' w'')
    (hW : ∀ w' : World, Calls Tryz.prog 39 #[.int .i64 k] w' fun e w'' => e = .returned (.tuple #[.int .i64 a, .int .i64 b]) ∧ Below w'.heap.size w' w'')
    (hE : ∀ w' : World, Calls Tryz.prog 41 #[.int .i64 k] w' fun e w'' => e = .returned (.bool ex) ∧ Below w'.heap.size w' w'')
    (hXa : X ≤ a) (hYb : Y ≤ b)
    (hcs : ((k = 1 ∨ k = 2 ∨ k = 4 ∨ k = 6) ∧ a = 1 ∧ b = 1 ∧ ex = true) ∨ (k = 3 ∧ a = 393216000 ∧ b = 393216000 ∧ ex = false) ∨ (k = 5 ∧ a = bdX 262144 262144 ∧ b = bdY 262144 ∧ ex = false) ∨ ((k ≠ 1 ∧ k ≠ 2 ∧ k ≠ 3 ∧ k ≠ 4 ∧ k ≠ 5 ∧ k ≠ 6) ∧ a = 0 ∧ b = 0 ∧ ex = false)) :
    Calls Tryz.prog 7 #[xfV k A n cp, .agg #[.int .i64 W, .int .i64 H]] w fun e w' => e = .returned (.bool true) ∧ Below w.heap.size w w' := by
  have hL := ((Lie.start w).alloc #[.int .i64 k, .slice A n cp] 31).alloc #[.int .i64 W, .int .i64 H] 22
  simp only [World.size_alloc] at hL
  by_cases h9 : 9000 < n
  · clear hO hR hW hE hcs
    go_enter Tryz.func7, Tryz.ntmps7
    go_wp2_with fail
    go_returns
    exact ⟨rfl, hL.bel⟩
  replace hO := hO (by omega)
  replace hR := hR (by omega)
  go_enter Tryz.func7, Tryz.ntmps7
  go_upto_region 3 with fail
  generalize hw0 : (w.alloc (.cells #[.int .i64 k, .slice A n cp] 31)).alloc (.cells #[.int .i64 W, .int .i64 H] 22) = w0 at *
  clear hw0
  have kx0 := hL.k 1 (by simp)
  have hks := (hL.k 0 (by simp)).cell2
  simp only [List.getElem_cons_zero, List.getElem_cons_succ] at kx0 hks
  obtain ⟨s0, s1⟩ := hks
  go_upto_region 8 with (first
    | (refine ldB rfl _ _ rfl kx0 rfl Tryz.underlying31 rfl xf_sizeB ?_)
    | (go_at_call 37; (with_reducible refine (hO _ hL.bel).mono ?_); rintro e w1 ⟨rfl, hb1⟩; have hL1 := hL.nx hb1; have kx1 : Bk w1 w.heap.size 31 #[.int .i64 k, .slice A n cp] := hL1.k 1 (by simp); have hks1 : w1.cell? ⟨w.heap.size + 1, 0, none⟩ = some (.int .i64 W) ∧ w1.cell? ⟨w.heap.size + 1, 1, none⟩ = some (.int .i64 H) := (hL1.k 0 (by simp)).cell2; obtain ⟨t0, t1⟩ := hks1)
    | (refine ldB rfl _ _ rfl kx1 rfl Tryz.underlying31 rfl xf_sizeB ?_)
    | (go_at_call 38; (with_reducible refine (hR _ hL1.bel).mono ?_); rintro e w2 ⟨rfl, hb2⟩; have hL2 := hL1.nx hb2; have hx2 : w2.cell? ⟨w.heap.size, 0, none⟩ = some (.int .i64 k) ∧ w2.cell? ⟨w.heap.size, 1, none⟩ = some (.slice A n cp) := (hL2.k 1 (by simp)).cell2; obtain ⟨y0, y1⟩ := hx2)
    | (go_at_call 39; (with_reducible refine (hW _).mono ?_); rintro e w3 ⟨rfl, hb3⟩))
  have hL3 := hL2.nx hb3
  have hx3 : w3.cell? ⟨w.heap.size, 0, none⟩ = some (.int .i64 k) ∧ w3.cell? ⟨w.heap.size, 1, none⟩ = some (.slice A n cp) := (hL3.k 1 (by simp)).cell2
  obtain ⟨x0, x1⟩ := hx3
  clear s0 s1 t0 t1 y0 y1 hL hL1 hL2 hO hR hW kx0 kx1 hb1 hb2 hb3
  rcases hcs with ⟨hk, rfl, rfl, rfl⟩ | ⟨rfl, rfl, rfl, rfl⟩ | ⟨rfl, ha, hb, rfl⟩ | ⟨⟨n1, n2, n3, n4, n5, n6⟩, rfl, rfl, rfl⟩
  · rcases hk with rfl | rfl | rfl | rfl
    all_goals
      go_wp2_with (first
        | (go_at_call 41; (with_reducible refine (hE _).mono ?_); rintro e w4 ⟨rfl, hb4⟩; have hL4 := hL3.nx hb4)
        | (go_at_call 42; (with_reducible refine (alive25_any _).mono ?_); rintro e wz ⟨rfl, hbz⟩))
      go_returns
      exact ⟨rfl, (hL4.nx hbz).bel⟩
  · go_wp2_with (first
      | (go_at_call 41; (with_reducible refine (hE _).mono ?_); rintro e w4 ⟨rfl, hb4⟩; have hL4 := hL3.nx hb4)
      | (go_at_call 42; (with_reducible refine (alive25_any _).mono ?_); rintro e wz ⟨rfl, hbz⟩))
    go_returns
    exact ⟨rfl, (hL4.nx hbz).bel⟩
  · have hK := Bk.new w3 2 #[.int .i64 262144, .int .i64 262144, .int .i64 0, .int .i64 0]
    have hB := rbounds_any 262144 262144 w3.heap.size 0 4 4 (w3.alloc (.cells #[.int .i64 262144, .int .i64 262144, .int .i64 0, .int .i64 0] 2)) hK.cell4.1 (by simp) (by decide) (by decide) (by decide)
    rw [← ha, ← hb] at hB
    have hLa := hL3.alloc #[.int .i64 262144, .int .i64 262144, .int .i64 0, .int .i64 0] 2
    have hlt : w.heap.size < w3.heap.size := (hL3.k 1 (by simp)).lt
    clear ha hb hK
    go_wp2_with (first
      | (go_at_call 40; (with_reducible refine hB.mono ?_); rintro e w5 ⟨rfl, rfl⟩)
      | (go_at_call 41; (with_reducible refine (hE _).mono ?_); rintro e w4 ⟨rfl, hb4⟩; have hL4 := hLa.nx hb4)
      | (go_at_call 42; (with_reducible refine (alive25_any _).mono ?_); rintro e wz ⟨rfl, hbz⟩))
    go_returns
    exact ⟨rfl, (hL4.nx hbz).bel⟩
  · have e1 : (k == 1) = false := by simp [n1]
    have e2 : (k == 2) = false := by simp [n2]
    have e3 : (k == 3) = false := by simp [n3]
    have e4 : (k == 4) = false := by simp [n4]
    have e5 : (k == 5) = false := by simp [n5]
    have e6 : (k == 6) = false := by simp [n6]
    clear n1 n2 n3 n4 n5 n6
    go_wp2_with (first
      | (go_at_call 41; (with_reducible refine (hE _).mono ?_); rintro e w4 ⟨rfl, hb4⟩; have hL4 := hL3.nx hb4)
      | (go_at_call 42; (with_reducible refine (alive25_any _).mono ?_); rintro e wz ⟨rfl, hbz⟩))
    go_returns
    exact ⟨rfl, (hL4.nx hbz).bel⟩
end Go.Proofs.YtlbiiljncacdoaaGreat
