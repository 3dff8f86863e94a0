/- The reference's Reach of chapter 32. -/
import Derived.Test.YtlbiiljncacdoaaGreatLR
set_option linter.unusedVariables false
namespace Go.Proofs.YtlbiiljncacdoaaGreat
open Go.RowKit
attribute [local go_sem high] run_maxL
theorem xf_sizeS : (Tryz.prog.info? 31).map (·.size) = some 2 := by kernel_rfl
def rstep (F G : Int → Int → Int → Int) (W H x y : Int) : Nat → Int
  | 0 => 0
  | 1 => apZ F G x y (x + bsd x W) y
  | _ => rchZ F G W H x y
set_option maxRecDepth 100000 in
set_option maxHeartbeats 16000000 in
theorem rreach_in (k W H x y : Int) (A : Option Addr) (n cp : Nat) (F G E : Int → Int → Int → Int) (w : World)
    (hW : W ≤ 32768) (hH : H ≤ 32768) (hx : 0 ≤ x ∧ x < W) (hy : 0 ≤ y ∧ y < H) (hF : ∀ a b : Int, 0 ≤ a → a < W → 0 ≤ b → b < H → I46 (F a b 1) ∧ I46 (G a b 1))
    (hA : ∀ (a b : Int) (w' : World), Below w.heap.size w w' → Calls Tryz.prog 30 #[xfV k A n cp, .int .i64 a, .int .i64 b, .int .i64 1] w' fun e w'' => e = .returned (.tuple #[.int .i64 (F a b 1), .int .i64 (G a b 1), .int .i64 (E a b 1)]) ∧ Below w'.heap.size w' w'') :
    Calls Tryz.prog 35 #[xfV k A n cp, .int .i64 W, .int .i64 H, .int .i64 x, .int .i64 y] w fun e w' => e = .returned (.int .i64 (rchZ F G W H x y)) ∧ Below w.heap.size w w' := by
  have hL := (Lie.start w).alloc #[.int .i64 k, .slice A n cp] 31
  have b1 : (-1 ≤ bsd x W ∧ bsd x W ≤ 1) ∧ 0 ≤ x + bsd x W ∧ x + bsd x W < W := by unfold bsd; split <;> (try split) <;> omega
  have b2 : (-1 ≤ bsd y H ∧ bsd y H ≤ 1) ∧ 0 ≤ y + bsd y H ∧ y + bsd y H < H := by unfold bsd; split <;> (try split) <;> omega
  obtain ⟨f0, g0⟩ := hF x y hx.1 hx.2 hy.1 hy.2
  obtain ⟨f1, g1⟩ := hF (x + bsd x W) y b1.2.1 b1.2.2 hy.1 hy.2
  obtain ⟨f2, g2⟩ := hF x (y + bsd y H) hx.1 hx.2 b2.2.1 b2.2.2
  have hA0 := hA x y
  have hA1 := hA (x + bsd x W) y
  have hA2 := hA x (y + bsd y H)
  have v1 := fun w' => rap_any _ _ w' f0 f1
  have v2 := fun w' => rap_any _ _ w' g0 g1
  have v3 := fun w' => rap_any _ _ w' f0 f2
  have v4 := fun w' => rap_any _ _ w' g0 g2
  have HZ1 : Hid (max 0 (max (apD (F x y 1) (F (x + bsd x W) y 1)) (apD (G x y 1) (G (x + bsd x W) y 1))) = apZ F G x y (x + bsd x W) y) := by
    have := apZ_nn F G x y (x + bsd x W) y
    show _ = _; unfold apZ at *; omega
  have HZ2 : Hid (max (apZ F G x y (x + bsd x W) y) (max (apD (F x y 1) (F x (y + bsd y H) 1)) (apD (G x y 1) (G x (y + bsd y H) 1))) = rchZ F G W H x y) := rfl
  have HS1 : Hid (bsd x W = 0 → apZ F G x y (x + bsd x W) y = 0) := fun h => by rw [h, Int.add_zero, apZ_self]
  have HS2 : Hid (bsd y H = 0 → rchZ F G W H x y = apZ F G x y (x + bsd x W) y) := fun h => by
    have := apZ_nn F G x y (x + bsd x W) y
    show max _ _ = _
    rw [h, Int.add_zero, apZ_self]; omega
  clear f0 g0 f1 g1 f2 g2 hF hA b1 b2
  obtain ⟨x0, x1⟩ := hx
  obtain ⟨y0, y1⟩ := hy
  go_enter Tryz.func35, Tryz.ntmps35
  go_wp2_with fail
  go_loopw [11, 12] (fun o i wr => ∃ j : Nat, j ≤ 2 ∧ i = .int .i64 j ∧ o = .int .i64 (rstep F G W H x y j) ∧ Lie w [(w.heap.size, 31, #[.int .i64 k, .slice A n cp])] wr) (fun _ i _ => 2 - (intOf i).toNat)
  case atStart => exact ⟨0, by omega, rfl, rfl, hL⟩
  case round =>
    clear hL
    obtain ⟨j, hj, rfl, rfl, hL⟩ := hrel
    rcases (show j = 0 ∨ j = 1 ∨ j = 2 by omega) with rfl | rfl | rfl
    · simp only [rstep]
      by_cases h1 : x + 1 < W
      · have eb : bsd x W = 1 := by unfold bsd; rw [if_pos h1]
        have HE : Hid (apZ F G x y (x + bsd x W) y = apZ F G x y (x + 1) y) := by show _ = _; rw [eb]
        rw [eb] at hA1 v1 v2 HZ1
        have kx := hL.k 0 (by simp)
        simp only [List.getElem_cons_zero] at kx
        clear eb HS1 HS2
        clear hA2 v3 v4 HZ2
        generalize F (x + 1) y 1 = p1 at *
        generalize G (x + 1) y 1 = p2 at *
        generalize E (x + 1) y 1 = p3 at *
        generalize F x y 1 = q1 at *
        generalize G x y 1 = q2 at *
        generalize E x y 1 = q3 at *
        generalize apD q1 p1 = d1 at *
        generalize apD q2 p2 = d2 at *
        go_wp2_with (first
          | (refine ldB rfl _ _ rfl kx rfl Tryz.underlying31 rfl xf_sizeS ?_)
          | (go_at_call 30; (with_reducible refine (hA0 _ hL.bel).mono ?_); rintro e w1 ⟨rfl, hb1⟩; have hL1 := hL.nx hb1; have kx1 : Bk w1 w.heap.size 31 #[.int .i64 k, .slice A n cp] := hL1.k 0 (by simp))
          | (refine ldB rfl _ _ rfl kx1 rfl Tryz.underlying31 rfl xf_sizeS ?_)
          | (go_at_call 30; (with_reducible refine (hA1 _ hL1.bel).mono ?_); rintro e w2 ⟨rfl, hb2⟩)
          | (go_at_call 92; (with_reducible refine (v1 _).mono ?_); rintro e w' ⟨rfl, rfl⟩)
          | (go_at_call 92; (with_reducible refine (v2 _).mono ?_); rintro e w' ⟨rfl, rfl⟩))
        exact ⟨⟨1, by omega, by go_num, by show _ = Value.int .i64 (apZ F G x y (x + bsd x W) y); rw [HE.out, HZ1.out], hL1.nx hb2⟩, by simp [intOf]⟩
      by_cases h2 : 0 < x
      · have eb : bsd x W = -1 := by unfold bsd; rw [if_neg h1, if_pos h2]
        have HE : Hid (apZ F G x y (x + bsd x W) y = apZ F G x y (x + -1) y) := by show _ = _; rw [eb]
        rw [eb] at hA1 v1 v2 HZ1
        have kx := hL.k 0 (by simp)
        simp only [List.getElem_cons_zero] at kx
        clear eb HS1 HS2
        clear hA2 v3 v4 HZ2
        generalize F (x + -1) y 1 = p1 at *
        generalize G (x + -1) y 1 = p2 at *
        generalize E (x + -1) y 1 = p3 at *
        generalize F x y 1 = q1 at *
        generalize G x y 1 = q2 at *
        generalize E x y 1 = q3 at *
        generalize apD q1 p1 = d1 at *
        generalize apD q2 p2 = d2 at *
        go_wp2_with (first
          | (refine ldB rfl _ _ rfl kx rfl Tryz.underlying31 rfl xf_sizeS ?_)
          | (go_at_call 30; (with_reducible refine (hA0 _ hL.bel).mono ?_); rintro e w1 ⟨rfl, hb1⟩; have hL1 := hL.nx hb1; have kx1 : Bk w1 w.heap.size 31 #[.int .i64 k, .slice A n cp] := hL1.k 0 (by simp))
          | (refine ldB rfl _ _ rfl kx1 rfl Tryz.underlying31 rfl xf_sizeS ?_)
          | (go_at_call 30; (with_reducible refine (hA1 _ hL1.bel).mono ?_); rintro e w2 ⟨rfl, hb2⟩)
          | (go_at_call 92; (with_reducible refine (v1 _).mono ?_); rintro e w' ⟨rfl, rfl⟩)
          | (go_at_call 92; (with_reducible refine (v2 _).mono ?_); rintro e w' ⟨rfl, rfl⟩))
        exact ⟨⟨1, by omega, by go_num, by show _ = Value.int .i64 (apZ F G x y (x + bsd x W) y); rw [HE.out, HZ1.out], hL1.nx hb2⟩, by simp [intOf]⟩
      have eb : bsd x W = 0 := by unfold bsd; rw [if_neg h1, if_neg h2]
      have hz := HS1.out eb
      clear eb
      go_wp2_with fail
      exact ⟨⟨1, by omega, by go_num, by show _ = Value.int .i64 (apZ F G x y (x + bsd x W) y); rw [hz], hL⟩, by simp [intOf]⟩
    · simp only [rstep]
      by_cases h1 : y + 1 < H
      · have eb : bsd y H = 1 := by unfold bsd; rw [if_pos h1]
        rw [eb] at hA2 v3 v4 HZ2
        have kx := hL.k 0 (by simp)
        simp only [List.getElem_cons_zero] at kx
        clear eb HS1 HS2
        clear hA1 v1 v2 HZ1
        generalize apZ F G x y (x + bsd x W) y = a1 at *
        generalize F x (y + 1) 1 = p1 at *
        generalize G x (y + 1) 1 = p2 at *
        generalize E x (y + 1) 1 = p3 at *
        generalize F x y 1 = q1 at *
        generalize G x y 1 = q2 at *
        generalize E x y 1 = q3 at *
        generalize apD q1 p1 = d1 at *
        generalize apD q2 p2 = d2 at *
        go_wp2_with (first
          | (refine ldB rfl _ _ rfl kx rfl Tryz.underlying31 rfl xf_sizeS ?_)
          | (go_at_call 30; (with_reducible refine (hA0 _ hL.bel).mono ?_); rintro e w1 ⟨rfl, hb1⟩; have hL1 := hL.nx hb1; have kx1 : Bk w1 w.heap.size 31 #[.int .i64 k, .slice A n cp] := hL1.k 0 (by simp))
          | (refine ldB rfl _ _ rfl kx1 rfl Tryz.underlying31 rfl xf_sizeS ?_)
          | (go_at_call 30; (with_reducible refine (hA2 _ hL1.bel).mono ?_); rintro e w2 ⟨rfl, hb2⟩)
          | (go_at_call 92; (with_reducible refine (v3 _).mono ?_); rintro e w' ⟨rfl, rfl⟩)
          | (go_at_call 92; (with_reducible refine (v4 _).mono ?_); rintro e w' ⟨rfl, rfl⟩))
        exact ⟨⟨2, by omega, by go_num, by rw [HZ2.out]; rfl, hL1.nx hb2⟩, by simp [intOf]⟩
      by_cases h2 : 0 < y
      · have eb : bsd y H = -1 := by unfold bsd; rw [if_neg h1, if_pos h2]
        rw [eb] at hA2 v3 v4 HZ2
        have kx := hL.k 0 (by simp)
        simp only [List.getElem_cons_zero] at kx
        clear eb HS1 HS2
        clear hA1 v1 v2 HZ1
        generalize apZ F G x y (x + bsd x W) y = a1 at *
        generalize F x (y + -1) 1 = p1 at *
        generalize G x (y + -1) 1 = p2 at *
        generalize E x (y + -1) 1 = p3 at *
        generalize F x y 1 = q1 at *
        generalize G x y 1 = q2 at *
        generalize E x y 1 = q3 at *
        generalize apD q1 p1 = d1 at *
        generalize apD q2 p2 = d2 at *
        go_wp2_with (first
          | (refine ldB rfl _ _ rfl kx rfl Tryz.underlying31 rfl xf_sizeS ?_)
          | (go_at_call 30; (with_reducible refine (hA0 _ hL.bel).mono ?_); rintro e w1 ⟨rfl, hb1⟩; have hL1 := hL.nx hb1; have kx1 : Bk w1 w.heap.size 31 #[.int .i64 k, .slice A n cp] := hL1.k 0 (by simp))
          | (refine ldB rfl _ _ rfl kx1 rfl Tryz.underlying31 rfl xf_sizeS ?_)
          | (go_at_call 30; (with_reducible refine (hA2 _ hL1.bel).mono ?_); rintro e w2 ⟨rfl, hb2⟩)
          | (go_at_call 92; (with_reducible refine (v3 _).mono ?_); rintro e w' ⟨rfl, rfl⟩)
          | (go_at_call 92; (with_reducible refine (v4 _).mono ?_); rintro e w' ⟨rfl, rfl⟩))
        exact ⟨⟨2, by omega, by go_num, by rw [HZ2.out]; rfl, hL1.nx hb2⟩, by simp [intOf]⟩
      have eb : bsd y H = 0 := by unfold bsd; rw [if_neg h1, if_neg h2]
      have hz := HS2.out eb
      clear eb
      go_wp2_with fail
      exact ⟨⟨2, by omega, by go_num, by show _ = Value.int .i64 (rchZ F G W H x y); rw [hz], hL⟩, by simp [intOf]⟩
    · simp only [rstep]
      go_wp2_with fail
      go_returns
      exact ⟨rfl, hL.bel⟩
end Go.Proofs.YtlbiiljncacdoaaGreat
