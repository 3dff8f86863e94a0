/- level.Reach and Of, and the reference's Reach, over what a map answers. -/
import Derived.Test.YtlbiiljncacdoaaGreatNP
import Derived.Test.YtlbiiljncacdoaaGreatOP
set_option linter.unusedVariables false
namespace Go.Proofs.YtlbiiljncacdoaaGreat
open Go.RowKit
theorem run_maxL {P : Program} {w : World} (ts : Array TypeId) (t : TypeId) (k k' : IntKind) (x y : Int) : (Builtin.max_ ts t #[.int k x, .int k' y]).run P w = .ok (.int k (max x y)) w := by
  rw [run_max_int2]
  congr 2
  split <;> omega
attribute [local go_sem high] run_maxL
def apD (a b : Int) : Int := max (a - b) (b - a)
/-- How far apart two places come from. -/
def apZ (F G : Int → Int → Int → Int) (x y s t : Int) : Int := max (apD (F x y 1) (F s t 1)) (apD (G x y 1) (G s t 1))
def bsd (a n : Int) : Int := if a + 1 < n then 1 else if 0 < a then -1 else 0
def rchZ (F G : Int → Int → Int → Int) (W H x y : Int) : Int := max (apZ F G x y (x + bsd x W) y) (apZ F G x y x (y + bsd y H))
def I46 (a : Int) : Prop := -70368744177664 ≤ a ∧ a ≤ 70368744177664
theorem apD_self (a : Int) : apD a a = 0 := by unfold apD; omega
theorem apD_nn (a b : Int) : 0 ≤ apD a b := by unfold apD; omega
theorem apZ_self (F G : Int → Int → Int → Int) (x y : Int) : apZ F G x y x y = 0 := by unfold apZ; rw [apD_self, apD_self]; rfl
theorem apZ_nn (F G : Int → Int → Int → Int) (x y s t : Int) : 0 ≤ apZ F G x y s t := by
  have := apD_nn (F x y 1) (F s t 1)
  unfold apZ; omega
theorem lap_any (a b : Int) (w : World) (ha : I46 a) (hb : I46 b) : Calls Tryz.prog 154 #[.int .i64 a, .int .i64 b] w fun e w' => e = .returned (.int .i64 (apD a b)) ∧ w = w' := by
  obtain ⟨a0, a1⟩ := ha
  obtain ⟨b0, b1⟩ := hb
  go_enter Tryz.func154, Tryz.ntmps154
  go_wp2_with fail
  go_returns
  exact ⟨rfl, rfl⟩
theorem rap_any (a b : Int) (w : World) (ha : I46 a) (hb : I46 b) : Calls Tryz.prog 92 #[.int .i64 a, .int .i64 b] w fun e w' => e = .returned (.int .i64 (apD a b)) ∧ w = w' := by
  obtain ⟨a0, a1⟩ := ha
  obtain ⟨b0, b1⟩ := hb
  go_enter Tryz.func92, Tryz.ntmps92
  go_wp2_with fail
  go_returns
  exact ⟨rfl, rfl⟩
theorem bsd_any (a n : Int) (w : World) (ha : -1 ≤ a ∧ a ≤ 32768) : Calls Tryz.prog 89 #[.int .i64 a, .int .i64 n] w fun e w' => e = .returned (.int .i64 (bsd a n)) ∧ w = w' := by
  unfold bsd
  by_cases h1 : a + 1 < n
  · rw [if_pos h1]
    go_enter Tryz.func89, Tryz.ntmps89
    go_wp2_with fail
    go_returns
    exact ⟨rfl, rfl⟩
  · rw [if_neg h1]
    by_cases h2 : 0 < a
    · rw [if_pos h2]
      go_enter Tryz.func89, Tryz.ntmps89
      go_wp2_with fail
      go_returns
      exact ⟨rfl, rfl⟩
    · rw [if_neg h2]
      go_enter Tryz.func89, Tryz.ntmps89
      go_wp2_with fail
      go_returns
      exact ⟨rfl, rfl⟩
set_option maxRecDepth 100000 in
set_option maxHeartbeats 8000000 in
theorem lfrom_any (p : Option Addr) (x y dx dy : Int) (F G E : Int → Int → Int → Int) (w : World) (hx : 0 ≤ x ∧ x ≤ 32768) (hy : 0 ≤ y ∧ y ≤ 32768) (hdx : -1 ≤ dx ∧ dx ≤ 1) (hdy : -1 ≤ dy ∧ dy ≤ 1)
    (h1 : I46 (F x y 1)) (h2 : I46 (G x y 1)) (h3 : I46 (F (x + dx) (y + dy) 1)) (h4 : I46 (G (x + dx) (y + dy) 1))
    (hA : ∀ (a b : Int) (w' : World), Below w.heap.size w w' → Calls Tryz.prog 24 #[.pointer p, .int .i64 a, .int .i64 b, .int .i64 1] w' fun e w'' => e = .returned (.tuple #[.int .i64 (F a b 1), .int .i64 (G a b 1), .int .i64 (E a b 1)]) ∧ Below w'.heap.size w' w'') :
    Calls Tryz.prog 88 #[.agg #[.pointer p, .int .i64 x, .int .i64 y], .int .i64 dx, .int .i64 dy] w fun e w' => e = .returned (.int .i64 (apZ F G x y (x + dx) (y + dy))) ∧ Below w.heap.size w w' := by
  have hL := (Lie.start w).alloc #[.pointer p, .int .i64 x, .int .i64 y] 145
  have hA1 := hA x y
  have hA2 := hA (x + dx) (y + dy)
  have hv1 := fun w' => lap_any (F x y 1) (F (x + dx) (y + dy) 1) w' h1 h3
  have hv2 := fun w' => lap_any (G x y 1) (G (x + dx) (y + dy) 1) w' h2 h4
  have HZ : Hid (max (apD (F x y 1) (F (x + dx) (y + dy) 1)) (apD (G x y 1) (G (x + dx) (y + dy) 1)) = apZ F G x y (x + dx) (y + dy)) := rfl
  clear hA h1 h2 h3 h4
  generalize F x y 1 = f1 at hA1 hv1 HZ
  generalize G x y 1 = g1 at hA1 hv2 HZ
  generalize E x y 1 = e1 at *
  generalize F (x + dx) (y + dy) 1 = f2 at hA2 hv1 HZ
  generalize G (x + dx) (y + dy) 1 = g2 at hA2 hv2 HZ
  generalize E (x + dx) (y + dy) 1 = e2 at *
  generalize apD f1 f2 = u at *
  generalize apD g1 g2 = v at *
  go_enter Tryz.func88, Tryz.ntmps88
  go_wp2_with (first
    | (go_at_call 24; (with_reducible refine (hA1 _ hL.bel).mono ?_); rintro e w1 ⟨rfl, hb1⟩; have hL1 := hL.nx hb1; have hks : w1.cell? ⟨w.heap.size, 0, none⟩ = some (.pointer p) ∧ w1.cell? ⟨w.heap.size, 1, none⟩ = some (.int .i64 x) ∧ w1.cell? ⟨w.heap.size, 2, none⟩ = some (.int .i64 y) := (hL1.k 0 (by simp)).cell3; obtain ⟨t0, t1, t2⟩ := hks; clear hb1)
    | (go_at_call 24; (with_reducible refine (hA2 _ hL1.bel).mono ?_); rintro e w2 ⟨rfl, hb2⟩)
    | (go_at_call 154; (with_reducible refine (hv1 _).mono ?_); rintro e w' ⟨rfl, rfl⟩)
    | (go_at_call 154; (with_reducible refine (hv2 _).mono ?_); rintro e w' ⟨rfl, rfl⟩))
  go_returns
  exact ⟨by rw [HZ.out]; rfl, (hL1.nx hb2).bel⟩
set_option maxRecDepth 100000 in
set_option maxHeartbeats 8000000 in
theorem reach_nil (x y : Int) (w : World) : Calls Tryz.prog 32 #[.pointer none, .int .i64 x, .int .i64 y] w fun e w' => e = .returned (.tuple #[.int .i64 0, .int .i64 10]) ∧ w = w' := by
  have hS := fun w' => xsize_nil w'
  go_enter Tryz.func32, Tryz.ntmps32
  go_wp2_with (first
    | (go_at_call 28; (with_reducible refine (hS _).mono ?_); rintro e w1 ⟨rfl, rfl⟩))
  go_returns
  exact ⟨rfl, rfl⟩
theorem out_cases {x y W H : Int} (h : ¬ ((0 ≤ x ∧ x < W) ∧ (0 ≤ y ∧ y < H))) : x < 0 ∨ (0 ≤ x ∧ W ≤ x) ∨ (0 ≤ x ∧ x < W ∧ y < 0) ∨ (0 ≤ x ∧ x < W ∧ 0 ≤ y ∧ H ≤ y) := by omega
set_option maxRecDepth 100000 in
set_option maxHeartbeats 8000000 in
theorem reach_out (k W H x y : Int) (v : Value) (q : Nat) (w : World) (hK : Bk w q 134 #[.int .i64 k, .int .i64 W, .int .i64 H, v]) (h : ¬ ((0 ≤ x ∧ x < W) ∧ (0 ≤ y ∧ y < H))) :
    Calls Tryz.prog 32 #[.pointer (some ⟨q, 0, none⟩), .int .i64 x, .int .i64 y] w fun e w' => e = .returned (.tuple #[.int .i64 0, .int .i64 11]) ∧ Below w.heap.size w w' := by
  have hS := xsize_at k W H v q w hK
  clear hK
  rcases out_cases h with h0 | ⟨h0, h1⟩ | ⟨h0, h1, h2⟩ | ⟨h0, h1, h2, h3⟩
  all_goals
    clear h
    go_enter Tryz.func32, Tryz.ntmps32
    go_wp2_with (first
      | (go_at_call 28; (with_reducible refine hS.mono ?_); rintro e w1 ⟨rfl, hb1⟩))
    go_returns
    exact ⟨rfl, hb1⟩
set_option maxRecDepth 100000 in
set_option maxHeartbeats 8000000 in
theorem reach_in (k W H x y : Int) (v : Value) (q : Nat) (F G E : Int → Int → Int → Int) (w : World) (hK : Bk w q 134 #[.int .i64 k, .int .i64 W, .int .i64 H, v])
    (hW : W ≤ 32768) (hH : H ≤ 32768) (hx : 0 ≤ x ∧ x < W) (hy : 0 ≤ y ∧ y < H) (hF : ∀ a b : Int, 0 ≤ a → a < W → 0 ≤ b → b < H → I46 (F a b 1) ∧ I46 (G a b 1))
    (hA : ∀ (a b : Int) (w' : World), Below w.heap.size w w' → Calls Tryz.prog 24 #[.pointer (some ⟨q, 0, none⟩), .int .i64 a, .int .i64 b, .int .i64 1] w' fun e w'' => e = .returned (.tuple #[.int .i64 (F a b 1), .int .i64 (G a b 1), .int .i64 (E a b 1)]) ∧ Below w'.heap.size w' w'') :
    Calls Tryz.prog 32 #[.pointer (some ⟨q, 0, none⟩), .int .i64 x, .int .i64 y] w fun e w' => e = .returned (.tuple #[.int .i64 (rchZ F G W H x y), .int .i64 0]) ∧ Below w.heap.size w w' := by
  have hS := xsize_at k W H v q w hK
  have b1 : (-1 ≤ bsd x W ∧ bsd x W ≤ 1) ∧ 0 ≤ x + bsd x W ∧ x + bsd x W < W := by unfold bsd; split <;> (try split) <;> omega
  have b2 : (-1 ≤ bsd y H ∧ bsd y H ≤ 1) ∧ 0 ≤ y + bsd y H ∧ y + bsd y H < H := by unfold bsd; split <;> (try split) <;> omega
  obtain ⟨f0, g0⟩ := hF x y hx.1 hx.2 hy.1 hy.2
  obtain ⟨f1, g1⟩ := hF (x + bsd x W) y b1.2.1 b1.2.2 hy.1 hy.2
  obtain ⟨f2, g2⟩ := hF x (y + bsd y H) hx.1 hx.2 b2.2.1 b2.2.2
  have hB1 := fun w' => bsd_any x W w' (by omega)
  have hB2 := fun w' => bsd_any y H w' (by omega)
  have hR1 := fun (w' : World) (hb : Below w.heap.size w w') => lfrom_any (some ⟨q, 0, none⟩) x y (bsd x W) 0 F G E w' (by omega) (by omega) b1.1 (by omega) f0 g0 (by rw [Int.add_zero]; exact f1) (by rw [Int.add_zero]; exact g1) (fun a b w'' hb' => hA a b w'' (hb.trans (hb'.mono hb.size)))
  have hR2 := fun (w' : World) (hb : Below w.heap.size w w') => lfrom_any (some ⟨q, 0, none⟩) x y 0 (bsd y H) F G E w' (by omega) (by omega) (by omega) b2.1 f0 g0 (by rw [Int.add_zero]; exact f2) (by rw [Int.add_zero]; exact g2) (fun a b w'' hb' => hA a b w'' (hb.trans (hb'.mono hb.size)))
  rw [Int.add_zero] at hR1 hR2
  have HZ : Hid (max (apZ F G x y (x + bsd x W) y) (apZ F G x y x (y + bsd y H)) = rchZ F G W H x y) := rfl
  clear f0 f1 f2 g0 g1 g2 hF hA b1 b2 hK
  generalize bsd x W = s1 at *
  generalize bsd y H = s2 at *
  generalize apZ F G x y (x + s1) y = a1 at *
  generalize apZ F G x y x (y + s2) = a2 at *
  obtain ⟨x0, x1⟩ := hx
  obtain ⟨y0, y1⟩ := hy
  go_enter Tryz.func32, Tryz.ntmps32
  go_wp2_with (first
    | (go_at_call 28; (with_reducible refine hS.mono ?_); rintro e w1 ⟨rfl, hb1⟩)
    | (go_at_call 89; (with_reducible refine (hB1 _).mono ?_); rintro e w' ⟨rfl, rfl⟩)
    | (go_at_call 89; (with_reducible refine (hB2 _).mono ?_); rintro e w' ⟨rfl, rfl⟩)
    | (go_at_call 88; (with_reducible refine (hR1 _ (by exact hb1)).mono ?_); rintro e w2 ⟨rfl, hb2⟩; have hb12 := hb1.trans (hb2.mono hb1.size))
    | (go_at_call 88; (with_reducible refine (hR2 _ (by exact hb12)).mono ?_); rintro e w3 ⟨rfl, hb3⟩; have hb13 := hb12.trans (hb3.mono hb12.size)))
  go_returns
  exact ⟨by rw [HZ.out]; rfl, hb13⟩
end Go.Proofs.YtlbiiljncacdoaaGreat
