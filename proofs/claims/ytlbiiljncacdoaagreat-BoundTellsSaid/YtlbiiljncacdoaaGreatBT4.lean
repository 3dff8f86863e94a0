/- bound.Of, the reference's, and the law BoundTells: the walk. -/
import Derived.Test.YtlbiiljncacdoaaGreatBT3
set_option linter.unusedVariables false
namespace Go.Proofs.YtlbiiljncacdoaaGreat
open Go.RowKit
attribute [local go_sem high] run_maxL
theorem xf_sizeB : (Tryz.prog.info? 31).map (·.size) = some 2 := by kernel_rfl
def boX (k : Int) (l : List Int) (C : Int) : Int := if C ≠ 0 then 0 else if k = 3 then 12000 * cf l 2 else if k = 5 then bdX (cf l 0) (cf l 1) else 1
def boY (k : Int) (l : List Int) (C : Int) : Int := if C ≠ 0 then 0 else if k = 3 then 12000 * cf l 2 else if k = 5 then bdY (cf l 1) else 1
set_option maxRecDepth 100000 in
set_option maxHeartbeats 8000000 in
theorem bof25_any (k : Int) (l : List Int) (A : Option Addr) (n cp : Nat) (W H C : Int) (w : World) (hl : l.length = n) (hcp : n ≤ cp) (hr : Rd w w.heap.size A (l.map (Value.int .i64)))
    (hCk : ∀ w' : World, Below w.heap.size w w' → Calls Tryz.prog 27 #[xfV k A n cp, .int .i64 W, .int .i64 H] w' fun e w'' => e = .returned (.int .i64 C) ∧ Below w'.heap.size w' w'')
    (h3 : C = 0 → k = 3 → leC l W H = 0) (h5 : C = 0 → k = 5 → shC l = 0) :
    Calls Tryz.prog 37 #[xfV k A n cp, .int .i64 W, .int .i64 H] w fun e w' => e = .returned (.tuple #[.int .i64 (boX k l C), .int .i64 (boY k l C), .int .i64 C]) ∧ Below w.heap.size w w' := by
  have hL := (Lie.start w).alloc #[.int .i64 k, .slice A n cp] 31
  have kx := hL.k 0 (by simp)
  simp only [List.getElem_cons_zero] at kx
  by_cases hz : C = 0
  · subst hz
    by_cases k3 : k = 3
    · subst k3
      have HX : Hid (boX 3 l 0 = 12000 * cf l 2) := rfl
      have HY : Hid (boY 3 l 0 = 12000 * cf l 2) := rfl
      have hB := fun (w' : World) (hb : Below w.heap.size w w') => bent_any l A n cp W H w' hl hcp (hr.below hb) hb.size (h3 rfl rfl)
      clear hl hcp hr h3 h5
      generalize boX 3 l 0 = X at *
      generalize boY 3 l 0 = Y at *
      generalize 12000 * cf l 2 = z at *
      go_enter Tryz.func37, Tryz.ntmps37
      go_wp2_with (first
        | (refine ldB rfl _ _ rfl kx rfl Tryz.underlying31 rfl xf_sizeB ?_)
        | (go_at_call 27; (with_reducible refine (hCk _ hL.bel).mono ?_); rintro e w1 ⟨rfl, hb1⟩; have hL1 := hL.nx hb1; have hx1 : w1.cell? ⟨w.heap.size, 0, none⟩ = some (.int .i64 3) ∧ w1.cell? ⟨w.heap.size, 1, none⟩ = some (.slice A n cp) := (hL1.k 0 (by simp)).cell2; obtain ⟨x0, x1⟩ := hx1)
        | (go_at_call 94; (with_reducible refine (hB _ hL1.bel).mono ?_); rintro e w2 ⟨rfl, hb2⟩))
      go_returns
      exact ⟨by rw [HX.out, HY.out]; rfl, (hL1.nx hb2).bel⟩
    have n3 : (k == 3) = false := by simp [k3]
    by_cases k5 : k = 5
    · subst k5
      have HX : Hid (boX 5 l 0 = bdX (cf l 0) (cf l 1)) := rfl
      have HY : Hid (boY 5 l 0 = bdY (cf l 1)) := rfl
      have hB := fun (w' : World) (hb : Below w.heap.size w w') => slanted_any l A n cp w' hl (hr.below hb) hb.size (h5 rfl rfl)
      clear hl hcp hr h3 h5 k3
      generalize boX 5 l 0 = X at *
      generalize boY 5 l 0 = Y at *
      generalize bdX (cf l 0) (cf l 1) = z1 at *
      generalize bdY (cf l 1) = z2 at *
      go_enter Tryz.func37, Tryz.ntmps37
      go_wp2_with (first
        | (refine ldB rfl _ _ rfl kx rfl Tryz.underlying31 rfl xf_sizeB ?_)
        | (go_at_call 27; (with_reducible refine (hCk _ hL.bel).mono ?_); rintro e w1 ⟨rfl, hb1⟩; have hL1 := hL.nx hb1; have hx1 : w1.cell? ⟨w.heap.size, 0, none⟩ = some (.int .i64 5) ∧ w1.cell? ⟨w.heap.size, 1, none⟩ = some (.slice A n cp) := (hL1.k 0 (by simp)).cell2; obtain ⟨x0, x1⟩ := hx1)
        | (go_at_call 95; (with_reducible refine (hB _ hL1.bel).mono ?_); rintro e w2 ⟨rfl, hb2⟩))
      go_returns
      exact ⟨by rw [HX.out, HY.out]; rfl, (hL1.nx hb2).bel⟩
    have n5 : (k == 5) = false := by simp [k5]
    have HX : Hid (boX k l 0 = 1) := by show _ = _; unfold boX; rw [if_neg (by simp), if_neg k3, if_neg k5]
    have HY : Hid (boY k l 0 = 1) := by show _ = _; unfold boY; rw [if_neg (by simp), if_neg k3, if_neg k5]
    clear hl hcp hr h3 h5 k3 k5
    go_enter Tryz.func37, Tryz.ntmps37
    go_wp2_with (first
      | (refine ldB rfl _ _ rfl kx rfl Tryz.underlying31 rfl xf_sizeB ?_)
      | (go_at_call 27; (with_reducible refine (hCk _ hL.bel).mono ?_); rintro e w1 ⟨rfl, hb1⟩; have hL1 := hL.nx hb1; have hx1 : w1.cell? ⟨w.heap.size, 0, none⟩ = some (.int .i64 k) ∧ w1.cell? ⟨w.heap.size, 1, none⟩ = some (.slice A n cp) := (hL1.k 0 (by simp)).cell2; obtain ⟨x0, x1⟩ := hx1))
    go_returns
    exact ⟨by rw [HX.out, HY.out]; rfl, hL1.bel⟩
  · have HX : Hid (boX k l C = 0) := by show _ = _; unfold boX; rw [if_pos hz]
    have HY : Hid (boY k l C = 0) := by show _ = _; unfold boY; rw [if_pos hz]
    have hbz : (C != 0) = true := by simp [hz]
    clear hl hcp hr h3 h5 hz
    go_enter Tryz.func37, Tryz.ntmps37
    go_wp2_with (first
      | (refine ldB rfl _ _ rfl kx rfl Tryz.underlying31 rfl xf_sizeB ?_)
      | (go_at_call 27; (with_reducible refine (hCk _ hL.bel).mono ?_); rintro e w1 ⟨rfl, hb1⟩; have hL1 := hL.nx hb1))
    go_returns
    exact ⟨by rw [HX.out, HY.out]; rfl, hL1.bel⟩
set_option maxRecDepth 100000 in
set_option maxHeartbeats 8000000 in
theorem rof25_any (k : Int) (l : List Int) (A : Option Addr) (n cp : Nat) (W H C : Int) (w : World) (hl : l.length = n) (hcp : n ≤ cp) (hr : Rd w w.heap.size A (l.map (Value.int .i64)))
    (hCk : ∀ w' : World, Below w.heap.size w w' → Calls Tryz.prog 26 #[xfV k A n cp, .int .i64 W, .int .i64 H] w' fun e w'' => e = .returned (.int .i64 C) ∧ Below w'.heap.size w' w'')
    (h3 : C = 0 → k = 3 → leC l W H = 0) (h5 : C = 0 → k = 5 → shC l = 0) :
    Calls Tryz.prog 38 #[xfV k A n cp, .int .i64 W, .int .i64 H] w fun e w' => e = .returned (.tuple #[.int .i64 (boX k l C), .int .i64 (boY k l C), .int .i64 C]) ∧ Below w.heap.size w w' := by
  have hL := (Lie.start w).alloc #[.int .i64 k, .slice A n cp] 31
  have kx := hL.k 0 (by simp)
  simp only [List.getElem_cons_zero] at kx
  by_cases hz : C = 0
  · subst hz
    by_cases k3 : k = 3
    · subst k3
      have HX : Hid (boX 3 l 0 = 12000 * cf l 2) := rfl
      have HY : Hid (boY 3 l 0 = 12000 * cf l 2) := rfl
      have hle := leC_zero.1 (h3 rfl rfl)
      have hf := (rgL_bd hle.rg).f
      obtain rfl : n = 7 := by rw [← hl]; exact hle.len
      obtain ⟨b, o, rfl, hb, _, hc⟩ := lget hl (by decide) hr
      have c2 := hc 2 (by decide)
      clear hl hcp hr h3 h5 hle hc
      generalize boX 3 l 0 = X at *
      generalize boY 3 l 0 = Y at *
      generalize cf l 2 = z at *
      obtain ⟨f0, f1⟩ := hf
      go_enter Tryz.func38, Tryz.ntmps38
      go_upto_region 5 with (first
        | (refine ldB rfl _ _ rfl kx rfl Tryz.underlying31 rfl xf_sizeB ?_)
        | (go_at_call 26; (with_reducible refine (hCk _ hL.bel).mono ?_); rintro e w1 ⟨rfl, hb1⟩; have hL1 := hL.nx hb1; have hx1 : w1.cell? ⟨w.heap.size, 0, none⟩ = some (.int .i64 3) ∧ w1.cell? ⟨w.heap.size, 1, none⟩ = some (.slice (some ⟨b, o, none⟩) 7 cp) := (hL1.k 0 (by simp)).cell2; obtain ⟨x0, x1⟩ := hx1; have cc := (hL1.bel.cell (p := ⟨b, o + 2, none⟩) hb).trans c2))
      go_quiet (fail)
      go_wp2_with fail
      go_returns
      exact ⟨by rw [HX.out, HY.out]; rfl, (hL1.drewN _).bel⟩
    have n3 : (k == 3) = false := by simp [k3]
    by_cases k5 : k = 5
    · subst k5
      have HX : Hid (boX 5 l 0 = bdX (cf l 0) (cf l 1)) := rfl
      have HY : Hid (boY 5 l 0 = bdY (cf l 1)) := rfl
      have hs := shC_zero.1 (h5 rfl rfl)
      obtain rfl : n = 4 := by rw [← hl]; exact hs.1
      obtain ⟨ha, hb', _, _⟩ := rg4_bd hs.2
      obtain ⟨b, o, rfl, hb, c0, hc⟩ := lget hl (by decide) hr
      have c1 := hc 1 (by decide)
      have hB := fun (w' : World) (hbe : Below w.heap.size w w') => rbounds_any (cf l 0) (cf l 1) b o 4 cp w' ((hbe.cell (p := ⟨b, o, none⟩) hb).trans c0) ((hbe.cell (p := ⟨b, o + 1, none⟩) hb).trans c1) (by decide) ha hb'
      clear hl hcp hr h3 h5 k3 hs hc c0 c1
      generalize boX 5 l 0 = X at *
      generalize boY 5 l 0 = Y at *
      generalize bdX (cf l 0) (cf l 1) = z1 at *
      generalize bdY (cf l 1) = z2 at *
      go_enter Tryz.func38, Tryz.ntmps38
      go_wp2_with (first
        | (refine ldB rfl _ _ rfl kx rfl Tryz.underlying31 rfl xf_sizeB ?_)
        | (go_at_call 26; (with_reducible refine (hCk _ hL.bel).mono ?_); rintro e w1 ⟨rfl, hb1⟩; have hL1 := hL.nx hb1; have hx1 : w1.cell? ⟨w.heap.size, 0, none⟩ = some (.int .i64 5) ∧ w1.cell? ⟨w.heap.size, 1, none⟩ = some (.slice (some ⟨b, o, none⟩) 4 cp) := (hL1.k 0 (by simp)).cell2; obtain ⟨x0, x1⟩ := hx1)
        | (go_at_call 40; (with_reducible refine (hB _ hL1.bel).mono ?_); rintro e w2 ⟨rfl, rfl⟩))
      go_returns
      exact ⟨by rw [HX.out, HY.out]; rfl, hL1.bel⟩
    have n5 : (k == 5) = false := by simp [k5]
    have HX : Hid (boX k l 0 = 1) := by show _ = _; unfold boX; rw [if_neg (by simp), if_neg k3, if_neg k5]
    have HY : Hid (boY k l 0 = 1) := by show _ = _; unfold boY; rw [if_neg (by simp), if_neg k3, if_neg k5]
    clear hl hcp hr h3 h5 k3 k5
    go_enter Tryz.func38, Tryz.ntmps38
    go_wp2_with (first
      | (refine ldB rfl _ _ rfl kx rfl Tryz.underlying31 rfl xf_sizeB ?_)
      | (go_at_call 26; (with_reducible refine (hCk _ hL.bel).mono ?_); rintro e w1 ⟨rfl, hb1⟩; have hL1 := hL.nx hb1; have hx1 : w1.cell? ⟨w.heap.size, 0, none⟩ = some (.int .i64 k) ∧ w1.cell? ⟨w.heap.size, 1, none⟩ = some (.slice A n cp) := (hL1.k 0 (by simp)).cell2; obtain ⟨x0, x1⟩ := hx1))
    go_returns
    exact ⟨by rw [HX.out, HY.out]; rfl, hL1.bel⟩
  · have HX : Hid (boX k l C = 0) := by show _ = _; unfold boX; rw [if_pos hz]
    have HY : Hid (boY k l C = 0) := by show _ = _; unfold boY; rw [if_pos hz]
    have hbz : (C != 0) = true := by simp [hz]
    clear hl hcp hr h3 h5 hz
    go_enter Tryz.func38, Tryz.ntmps38
    go_wp2_with (first
      | (refine ldB rfl _ _ rfl kx rfl Tryz.underlying31 rfl xf_sizeB ?_)
      | (go_at_call 26; (with_reducible refine (hCk _ hL.bel).mono ?_); rintro e w1 ⟨rfl, hb1⟩; have hL1 := hL.nx hb1))
    go_returns
    exact ⟨by rw [HX.out, HY.out]; rfl, hL1.bel⟩
end Go.Proofs.YtlbiiljncacdoaaGreat
