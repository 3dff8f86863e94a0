/- level.Of, and the law LevelReaches: the walk. -/
import Derived.Test.YtlbiiljncacdoaaGreatLS
set_option linter.unusedVariables false
namespace Go.Proofs.YtlbiiljncacdoaaGreat
open Go.RowKit
set_option maxRecDepth 100000 in
set_option maxHeartbeats 8000000 in
theorem lof_err (p : Option Addr) (x y m c : Int) (w : World) (hc : Hid (c ≠ 0)) (hR : Calls Tryz.prog 32 #[.pointer p, .int .i64 x, .int .i64 y] w fun e w' => e = .returned (.tuple #[.int .i64 0, .int .i64 c]) ∧ Below w.heap.size w w') :
    Calls Tryz.prog 33 #[.pointer p, .int .i64 x, .int .i64 y, .int .i64 m] w fun e w' => e = .returned (.tuple #[.int .i64 0, .int .i64 c]) ∧ Below w.heap.size w w' := by
  have hb : (c != 0) = true := by simpa using hc.out
  go_enter Tryz.func33, Tryz.ntmps33
  go_wp2_with (first
    | (go_at_call 32; (with_reducible refine hR.mono ?_); rintro e w1 ⟨rfl, hb1⟩))
  go_returns
  exact ⟨rfl, hb1⟩
set_option maxRecDepth 100000 in
set_option maxHeartbeats 8000000 in
theorem lof_ok (p : Option Addr) (x y m d z : Int) (w : World) (hR : Calls Tryz.prog 32 #[.pointer p, .int .i64 x, .int .i64 y] w fun e w' => e = .returned (.tuple #[.int .i64 d, .int .i64 0]) ∧ Below w.heap.size w w')
    (hP : ∀ w' : World, Calls Tryz.prog 90 #[.int .i64 d, .int .i64 m] w' fun e w'' => e = .returned (.int .i64 z) ∧ w' = w'') :
    Calls Tryz.prog 33 #[.pointer p, .int .i64 x, .int .i64 y, .int .i64 m] w fun e w' => e = .returned (.tuple #[.int .i64 z, .int .i64 0]) ∧ Below w.heap.size w w' := by
  go_enter Tryz.func33, Tryz.ntmps33
  go_wp2_with (first
    | (go_at_call 32; (with_reducible refine hR.mono ?_); rintro e w1 ⟨rfl, hb1⟩)
    | (go_at_call 90; (with_reducible refine (hP _).mono ?_); rintro e w2 ⟨rfl, rfl⟩))
  go_returns
  exact ⟨rfl, hb1⟩
set_option maxRecDepth 100000 in
set_option maxHeartbeats 16000000 in
theorem walkLevelReaches (k : Int) (A : Option Addr) (n cp : Nat) (W H x y m : Int) (C : Int) (F G E : Int → Int → Int → Int) (pk : Int → Int → Int) (w : World)
    (hN : n ≤ 9000 → NewMp k A n cp W H w C F G E)
    (hC : n ≤ 9000 → ∀ w' : World, Below w.heap.size w w' → Calls Tryz.prog 26 #[xfV k A n cp, .int .i64 W, .int .i64 H] w' fun e w'' => e = .returned (.int .i64 C) ∧ Below w'.heap.size w' w'')
    (hA : C = 0 → ∀ (w' : World) (x y d : Int), Below w.heap.size w w' → Calls Tryz.prog 30 #[xfV k A n cp, .int .i64 x, .int .i64 y, .int .i64 d] w' fun e w'' => e = .returned (.tuple #[.int .i64 (F x y d), .int .i64 (G x y d), .int .i64 (E x y d)]) ∧ Below w'.heap.size w' w'')
    (hF : C = 0 → (W ≤ 32768 ∧ H ≤ 32768) ∧ ∀ a b : Int, 0 ≤ a → a < W → 0 ≤ b → b < H → I46 (F a b 1) ∧ I46 (G a b 1))
    (hP : ∀ (d m : Int) (w' : World), Calls Tryz.prog 90 #[.int .i64 d, .int .i64 m] w' fun e w'' => e = .returned (.int .i64 (pk d m)) ∧ w' = w'')
    (hQ : ∀ (d m : Int) (w' : World), Calls Tryz.prog 36 #[.int .i64 d, .int .i64 m] w' fun e w'' => e = .returned (.int .i64 (pk d m)) ∧ w' = w'')
    (hAl : ∀ w : World, Calls Tryz.prog 34 #[] w fun e w' => e = .returned (.bool true) ∧ w = w') :
    Calls Tryz.prog 6 #[xfV k A n cp, .agg #[.int .i64 W, .int .i64 H], .agg #[.int .i64 x, .int .i64 y, .int .i64 m]] w fun e w' => e = .returned (.bool true) ∧ Below w.heap.size w w' := by
  have hL := (((Lie.start w).alloc #[.int .i64 k, .slice A n cp] 31).alloc #[.int .i64 W, .int .i64 H] 22).alloc #[.int .i64 x, .int .i64 y, .int .i64 m] 53
  simp only [World.size_alloc] at hL
  by_cases h9 : 9000 < n
  · clear hN hC hA hF
    go_enter Tryz.func6, Tryz.ntmps6
    go_wp2_with fail
    go_returns
    exact ⟨rfl, hL.bel⟩
  replace hN := hN (by omega)
  replace hC := hC (by omega)
  go_enter Tryz.func6, Tryz.ntmps6
  go_upto_region 3 with fail
  have hNn := hN _ hL.bel
  generalize hw0 : (((w.alloc (.cells #[.int .i64 k, .slice A n cp] 31)).alloc (.cells #[.int .i64 W, .int .i64 H] 22)).alloc (.cells #[.int .i64 x, .int .i64 y, .int .i64 m] 53)) = w0 at *
  clear hw0 hN
  have kx0 := hL.k 2 (by simp)
  have hks := (hL.k 1 (by simp)).cell2
  simp only [List.getElem_cons_zero, List.getElem_cons_succ] at kx0 hks
  obtain ⟨s0, s1⟩ := hks
  go_upto_region 4 with (first
    | (refine ldB rfl _ _ rfl kx0 rfl Tryz.underlying31 rfl xf_sizeS ?_)
    | (go_at_call 21; (with_reducible refine hNn.mono ?_); rintro e w1 ⟨p, rfl, hp0, hp1, hb1⟩))
  have hL1 := hL.nx hb1
  clear hNn s0 s1 kx0
  have hkp : w1.cell? ⟨w.heap.size + 2, 0, none⟩ = some (.int .i64 x) ∧ w1.cell? ⟨w.heap.size + 2, 1, none⟩ = some (.int .i64 y) ∧ w1.cell? ⟨w.heap.size + 2, 2, none⟩ = some (.int .i64 m) := (hL1.k 0 (by simp)).cell3
  obtain ⟨p0, p1, p2⟩ := hkp
  by_cases hz : C = 0
  · subst hz
    obtain ⟨hM, q, rfl, hq, v, hK⟩ := hp1 rfl
    obtain ⟨⟨hW, hH⟩, hF⟩ := hF rfl
    replace hA := hA rfl
    have hMb := fun (w' : World) (hb : Below w1.heap.size w1 w') => hM w' hb.size (fun i _ h => hb.block i h)
    have hKb := fun (w' : World) (hb : Below w1.heap.size w1 w') => hK.nx hb
    clear hp0 hp1 hL hM
    by_cases hin : (0 ≤ x ∧ x < W) ∧ (0 ≤ y ∧ y < H)
    · obtain ⟨hx, hy⟩ := hin
      have hR := fun (w' : World) (hb : Below w1.heap.size w1 w') => reach_in k W H x y v q F G E w' (hKb w' hb) hW hH hx hy hF (fun a b w'' hb' => hMb w'' (hb.trans (hb'.mono hb.size)) a b 1)
      have hO := fun (w' : World) (hb : Below w1.heap.size w1 w') => lof_ok (some ⟨q, 0, none⟩) x y m (rchZ F G W H x y) (pk (rchZ F G W H x y) m) w' (hR w' hb) (hP _ _)
      have hRr := fun (w' : World) (hb : Below w.heap.size w w') => rreach_in k W H x y A n cp F G E w' hW hH hx hy hF (fun a b w'' hb' => hA w'' a b 1 (hb.trans (hb'.mono hb.size)))
      have hQq := hQ (rchZ F G W H x y) m
      clear hF hA hMb hKb hP hQ hK
      generalize pk (rchZ F G W H x y) m = z at *
      generalize rchZ F G W H x y = r at *
      obtain ⟨x0, x1⟩ := hx
      obtain ⟨y0, y1⟩ := hy
      go_wp2_with (first
        | (go_at_call 32; (with_reducible refine (hR _ (Below.refl _ _)).mono ?_); rintro e w2 ⟨rfl, hb2⟩; have hL2 := hL1.nx hb2; have hkq : w2.cell? ⟨w.heap.size + 2, 0, none⟩ = some (.int .i64 x) ∧ w2.cell? ⟨w.heap.size + 2, 1, none⟩ = some (.int .i64 y) ∧ w2.cell? ⟨w.heap.size + 2, 2, none⟩ = some (.int .i64 m) := (hL2.k 0 (by simp)).cell3; obtain ⟨q0, q1, q2⟩ := hkq)
        | (go_at_call 33; (with_reducible refine (hO _ (by exact hb2)).mono ?_); rintro e w3 ⟨rfl, hb3⟩; have hL3 := hL2.nx hb3; have kx3 : Bk w3 w.heap.size 31 #[.int .i64 k, .slice A n cp] := hL3.k 2 (by simp); have hks3 : w3.cell? ⟨w.heap.size + 1, 0, none⟩ = some (.int .i64 W) ∧ w3.cell? ⟨w.heap.size + 1, 1, none⟩ = some (.int .i64 H) := (hL3.k 1 (by simp)).cell2; obtain ⟨t0, t1⟩ := hks3)
        | (refine ldB rfl _ _ rfl kx3 rfl Tryz.underlying31 rfl xf_sizeS ?_)
        | (go_at_call 26; (with_reducible refine (hC _ hL3.bel).mono ?_); rintro e w4 ⟨rfl, hb4⟩; have hL4 := hL3.nx hb4; have kx4 : Bk w4 w.heap.size 31 #[.int .i64 k, .slice A n cp] := hL4.k 2 (by simp); have hks4 : w4.cell? ⟨w.heap.size + 1, 0, none⟩ = some (.int .i64 W) ∧ w4.cell? ⟨w.heap.size + 1, 1, none⟩ = some (.int .i64 H) := (hL4.k 1 (by simp)).cell2; obtain ⟨u0, u1⟩ := hks4; have hkq4 : w4.cell? ⟨w.heap.size + 2, 0, none⟩ = some (.int .i64 x) ∧ w4.cell? ⟨w.heap.size + 2, 1, none⟩ = some (.int .i64 y) ∧ w4.cell? ⟨w.heap.size + 2, 2, none⟩ = some (.int .i64 m) := (hL4.k 0 (by simp)).cell3; obtain ⟨v0, v1, v2⟩ := hkq4)
        | (refine ldB rfl _ _ rfl kx4 rfl Tryz.underlying31 rfl xf_sizeS ?_)
        | (go_at_call 35; (with_reducible refine (hRr _ hL4.bel).mono ?_); rintro e w5 ⟨rfl, hb5⟩; have hL5 := hL4.nx hb5; have hkq5 : w5.cell? ⟨w.heap.size + 2, 0, none⟩ = some (.int .i64 x) ∧ w5.cell? ⟨w.heap.size + 2, 1, none⟩ = some (.int .i64 y) ∧ w5.cell? ⟨w.heap.size + 2, 2, none⟩ = some (.int .i64 m) := (hL5.k 0 (by simp)).cell3; obtain ⟨y0, y1, y2⟩ := hkq5)
        | (go_at_call 36; (with_reducible refine (hQq _).mono ?_); rintro e w6 ⟨rfl, rfl⟩)
        | (go_at_call 34; (with_reducible refine (hAl _).mono ?_); rintro e w7 ⟨rfl, rfl⟩))
      go_returns
      exact ⟨rfl, hL5.bel⟩
    · have hR := fun (w' : World) (hb : Below w1.heap.size w1 w') => reach_out k W H x y v q w' (hKb w' hb) hin
      have hO := fun (w' : World) (hb : Below w1.heap.size w1 w') => lof_err (some ⟨q, 0, none⟩) x y m 11 w' (by show (11 : Int) ≠ 0; decide) (hR w' hb)
      clear hF hA hMb hKb hP hQ hK
      rcases out_cases hin with h0 | ⟨h0, h1⟩ | ⟨h0, h1, h2⟩ | ⟨h0, h1, h2, h3⟩
      all_goals
        clear hin
        go_wp2_with (first
          | (go_at_call 32; (with_reducible refine (hR _ (Below.refl _ _)).mono ?_); rintro e w2 ⟨rfl, hb2⟩; have hL2 := hL1.nx hb2; have hkq : w2.cell? ⟨w.heap.size + 2, 0, none⟩ = some (.int .i64 x) ∧ w2.cell? ⟨w.heap.size + 2, 1, none⟩ = some (.int .i64 y) ∧ w2.cell? ⟨w.heap.size + 2, 2, none⟩ = some (.int .i64 m) := (hL2.k 0 (by simp)).cell3; obtain ⟨q0, q1, q2⟩ := hkq)
          | (go_at_call 33; (with_reducible refine (hO _ (by exact hb2)).mono ?_); rintro e w3 ⟨rfl, hb3⟩; have hL3 := hL2.nx hb3; have kx3 : Bk w3 w.heap.size 31 #[.int .i64 k, .slice A n cp] := hL3.k 2 (by simp); have hks3 : w3.cell? ⟨w.heap.size + 1, 0, none⟩ = some (.int .i64 W) ∧ w3.cell? ⟨w.heap.size + 1, 1, none⟩ = some (.int .i64 H) := (hL3.k 1 (by simp)).cell2; obtain ⟨t0, t1⟩ := hks3)
          | (refine ldB rfl _ _ rfl kx3 rfl Tryz.underlying31 rfl xf_sizeS ?_)
          | (go_at_call 26; (with_reducible refine (hC _ hL3.bel).mono ?_); rintro e w4 ⟨rfl, hb4⟩; have hL4 := hL3.nx hb4; have hks4 : w4.cell? ⟨w.heap.size + 1, 0, none⟩ = some (.int .i64 W) ∧ w4.cell? ⟨w.heap.size + 1, 1, none⟩ = some (.int .i64 H) := (hL4.k 1 (by simp)).cell2; obtain ⟨u0, u1⟩ := hks4; have hkq4 : w4.cell? ⟨w.heap.size + 2, 0, none⟩ = some (.int .i64 x) ∧ w4.cell? ⟨w.heap.size + 2, 1, none⟩ = some (.int .i64 y) ∧ w4.cell? ⟨w.heap.size + 2, 2, none⟩ = some (.int .i64 m) := (hL4.k 0 (by simp)).cell3; obtain ⟨v0, v1, v2⟩ := hkq4)
          | (go_at_call 34; (with_reducible refine (hAl _).mono ?_); rintro e w7 ⟨rfl, rfl⟩))
        go_returns
        exact ⟨rfl, hL4.bel⟩
  · obtain rfl := hp0 hz
    have hbz : (C != 0) = true := by simp [hz]
    have hR := fun w' : World => (reach_nil x y w').mono (R' := fun e w'' => e = .returned (.tuple #[.int .i64 0, .int .i64 10]) ∧ Below w'.heap.size w' w'') (fun e w'' ⟨h1, h2⟩ => ⟨h1, by subst h2; exact Below.refl _ _⟩)
    have hO := fun w' : World => lof_err none x y m 10 w' (by show (10 : Int) ≠ 0; decide) (hR w')
    clear hp0 hp1 hA hF hP hQ hz
    go_wp2_with (first
      | (go_at_call 32; (with_reducible refine (hR _).mono ?_); rintro e w2 ⟨rfl, hb2⟩; have hL2 := hL1.nx hb2; have hkq : w2.cell? ⟨w.heap.size + 2, 0, none⟩ = some (.int .i64 x) ∧ w2.cell? ⟨w.heap.size + 2, 1, none⟩ = some (.int .i64 y) ∧ w2.cell? ⟨w.heap.size + 2, 2, none⟩ = some (.int .i64 m) := (hL2.k 0 (by simp)).cell3; obtain ⟨q0, q1, q2⟩ := hkq)
      | (go_at_call 33; (with_reducible refine (hO _).mono ?_); rintro e w3 ⟨rfl, hb3⟩; have hL3 := hL2.nx hb3; have kx3 : Bk w3 w.heap.size 31 #[.int .i64 k, .slice A n cp] := hL3.k 2 (by simp); have hks3 : w3.cell? ⟨w.heap.size + 1, 0, none⟩ = some (.int .i64 W) ∧ w3.cell? ⟨w.heap.size + 1, 1, none⟩ = some (.int .i64 H) := (hL3.k 1 (by simp)).cell2; obtain ⟨t0, t1⟩ := hks3)
      | (refine ldB rfl _ _ rfl kx3 rfl Tryz.underlying31 rfl xf_sizeS ?_)
      | (go_at_call 26; (with_reducible refine (hC _ hL3.bel).mono ?_); rintro e w4 ⟨rfl, hb4⟩; have hL4 := hL3.nx hb4)
      | (go_at_call 34; (with_reducible refine (hAl _).mono ?_); rintro e w7 ⟨rfl, rfl⟩))
    go_returns
    exact ⟨rfl, hL4.bel⟩
end Go.Proofs.YtlbiiljncacdoaaGreat
