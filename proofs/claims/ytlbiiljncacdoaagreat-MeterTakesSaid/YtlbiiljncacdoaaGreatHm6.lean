import Derived.Test.YtlbiiljncacdoaaGreatHm5
/-!
# YtlbiiljncacdoaaGreatHm6: homog.New, homog.Check, (*Map).Lines (rows that say them share the text)
-/
open Go.RowKit
set_option autoImplicit false
namespace Go.Proofs.YtlbiiljncacdoaaGreat
/-- What signs answers. -/
def sgH (a : Nat → Int) (W H : Int) : Bool :=
  decide (0 < mn4 (undR a (-1) (-1) 2) (undR a (2 * W - 1) (-1) 2) (undR a (-1) (2 * H - 1) 2) (undR a (2 * W - 1) (2 * H - 1) 2)) || decide (mx4 (undR a (-1) (-1) 2) (undR a (2 * W - 1) (-1) 2) (undR a (-1) (2 * H - 1) 2) (undR a (2 * W - 1) (2 * H - 1) 2) < 0)
/-- The sizes that go. -/
def szH (W H : Int) : Bool := decide ((1 ≤ W ∧ W ≤ 32768) ∧ (1 ≤ H ∧ H ≤ 32768))
theorem szH_iff {W H : Int} : szH W H = true ↔ ((1 ≤ W ∧ W ≤ 32768) ∧ (1 ≤ H ∧ H ≤ 32768)) := by simp [szH]
/-- New's code. -/
def newC (l : List Int) (W H : Int) : Int :=
  if rngC l ≠ 0 then rngC l else if szH W H = false then 30 else if detS (cf l) 3 = 0 then 40 else if sgH (adK (cf l) 9) W H = false then 41 else 0
/-- What goes. -/
structure NwOk (l : List Int) (W H : Int) : Prop where
  ok : CfOk l
  sz : (1 ≤ W ∧ W ≤ 32768) ∧ (1 ≤ H ∧ H ≤ 32768)
  dt : detS (cf l) 3 ≠ 0
  sg : sgH (adK (cf l) 9) W H = true
theorem rngC_zero {l : List Int} : rngC l = 0 ↔ CfOk l := by
  simp only [rngC]
  constructor
  · intro h
    by_cases h1 : l.length = 9
    · by_cases h2 : rgB l = true
      · exact ⟨h1, h2⟩
      · simp [h1, h2] at h
    · simp [h1] at h
  · intro h
    simp [h.len, h.rg]
theorem newC_zero {l : List Int} {W H : Int} : newC l W H = 0 ↔ NwOk l W H := by
  simp only [newC]
  constructor
  · intro h
    by_cases h1 : rngC l = 0
    · by_cases h2 : szH W H = true
      · by_cases h3 : detS (cf l) 3 = 0
        · simp [h1, h2, h3] at h
        · by_cases h4 : sgH (adK (cf l) 9) W H = true
          · exact ⟨rngC_zero.1 h1, szH_iff.1 h2, h3, h4⟩
          · simp [h1, h2, h3, h4] at h
      · simp [h1, h2] at h
    · simp [h1] at h
  · intro h
    rw [if_neg (by simp [rngC_zero.2 h.ok]), if_neg (by simp [szH_iff.2 h.sz]), if_neg h.dt, if_neg (by simp [h.sg])]
/-- What New leaves. -/
def NwR (l : List Int) (W H : Int) (w w' : World) (p : Option Addr) : Prop :=
  (newC l W H ≠ 0 → p = none) ∧ (newC l W H = 0 → ∃ g, p = some ⟨g, 0, none⟩ ∧ w.heap.size ≤ g ∧ Bk w' g 268 (mA (adK (cf l) 9)))
set_option maxRecDepth 100000 in
set_option maxHeartbeats 8000000 in
theorem new_any (l : List Int) (A : Option Addr) (n cp : Nat) (W H : Int) (w : World) {B : Nat} (hl : l.length = n) (hr : Rd w B A (l.map (Value.int .i64))) (hB : B ≤ w.heap.size) (hcp : n ≤ cp) :
    Calls Tryz.prog 181 #[.slice A n cp, .int .i64 W, .int .i64 H] w fun e w' => ∃ p, e = .returned (.tuple #[.pointer p, .int .i64 (newC l W H)]) ∧ NwR l W H w w' p ∧ Below w.heap.size w w' := by
  have hRg := fun (w' : World) (hb : Below w.heap.size w w') => ranges_any l A n cp w' hl (hr.below' hb hB)
  have hb0 := Below.refl w.heap.size w
  by_cases h1 : rngC l = 0
  · have hC := rngC_zero.1 h1
    rw [h1] at hRg
    by_cases h2 : szH W H = true
    · have hz := szH_iff.1 h2
      obtain rfl : n = 9 := by rw [← hl]; exact hC.len
      have hBk := fun (w' : World) (hb : Below w.heap.size w w') => back_any l A cp w' hC (hr.below' hb hB) (Nat.le_trans hB hb.size) hcp
      have hSg := fun (g : Nat) (w' : World) (hk : Bk w' g 268 (mA (adK (cf l) 9))) => signs_any (adK (cf l) 9) g W H w' hk (adOk hC) hz.1 hz.2
      by_cases h3 : detS (cf l) 3 = 0
      · have e4 : newC l W H = 40 := by simp [newC, h1, h2, h3]
        simp only [h3, ne_eq, not_true_eq_false, decide_false] at hBk
        simp only [NwR, e4]
        clear h3 e4 h1 h2
        go_enter Tryz.func181, Tryz.ntmps181
        go_wp2_with (first
          | (go_at_call 221; (with_reducible refine (hRg _ (by exact hb0)).mono ?_); rintro e w1 ⟨rfl, rfl⟩)
          | (go_at_call 222; (with_reducible refine (hBk _ (by exact hb0)).mono ?_); rintro e w1 ⟨g, rfl, hg, hKg, hb1⟩))
        go_returns
        exact ⟨none, rfl, ⟨fun _ => rfl, fun h => absurd h (by decide)⟩, hb1⟩
      · have e4 : newC l W H = if sgH (adK (cf l) 9) W H = false then 41 else 0 := by simp [newC, h1, h2, h3]
        simp only [h3, ne_eq, not_false_eq_true, decide_true] at hBk
        simp only [← sgH.eq_1] at hSg
        clear h3 h1 h2
        generalize sgH (adK (cf l) 9) W H = sb at *
        cases sb
        · have e5 : newC l W H = 41 := e4
          simp only [NwR, e5]
          clear e4 e5
          go_enter Tryz.func181, Tryz.ntmps181
          go_wp2_with (first
            | (go_at_call 221; (with_reducible refine (hRg _ (by exact hb0)).mono ?_); rintro e w1 ⟨rfl, rfl⟩)
            | (go_at_call 222; (with_reducible refine (hBk _ (by exact hb0)).mono ?_); rintro e w1 ⟨g, rfl, hg, hKg, hb1⟩)
            | (go_at_call 223; (with_reducible refine (hSg g _ (by exact hKg)).mono ?_); rintro e w2 ⟨rfl, hb2⟩; have hb3 := hb1.trans (hb2.mono hb1.size)))
          go_returns
          exact ⟨none, rfl, ⟨fun _ => rfl, fun h => absurd h (by decide)⟩, hb3⟩
        · have e5 : newC l W H = 0 := e4
          simp only [NwR, e5]
          clear e4 e5
          go_enter Tryz.func181, Tryz.ntmps181
          go_wp2_with (first
            | (go_at_call 221; (with_reducible refine (hRg _ (by exact hb0)).mono ?_); rintro e w1 ⟨rfl, rfl⟩)
            | (go_at_call 222; (with_reducible refine (hBk _ (by exact hb0)).mono ?_); rintro e w1 ⟨g, rfl, hg, hKg, hb1⟩)
            | (go_at_call 223; (with_reducible refine (hSg g _ (by exact hKg)).mono ?_); rintro e w2 ⟨rfl, hb2⟩; have hb3 := hb1.trans (hb2.mono hb1.size)))
          go_returns
          exact ⟨_, rfl, ⟨fun h => absurd rfl h, fun _ => ⟨g, rfl, hg, hKg.nx hb2⟩⟩, hb3⟩
    · have e4 : newC l W H = 30 := by simp [newC, h1, h2]
      have hn : ¬ ((1 ≤ W ∧ W ≤ 32768) ∧ (1 ≤ H ∧ H ≤ 32768)) := fun h => h2 (szH_iff.2 h)
      simp only [NwR, e4]
      clear e4 h1 h2
      have hW := Classical.em (W < 1)
      have hW' := Classical.em (W > 32768)
      have hH := Classical.em (H < 1)
      have hH' := Classical.em (H > 32768)
      rcases hW with hW | hW <;> rcases hW' with hW' | hW' <;> rcases hH with hH | hH <;> rcases hH' with hH' | hH' <;> first | (exfalso; omega; done) | skip
      all_goals
        clear hn
        go_enter Tryz.func181, Tryz.ntmps181
        go_wp2_with (first
          | (go_at_call 221; (with_reducible refine (hRg _ (by exact hb0)).mono ?_); rintro e w1 ⟨rfl, rfl⟩))
        go_returns
        exact ⟨none, rfl, ⟨fun _ => rfl, fun h => absurd h (by decide)⟩, hb0⟩
  · have e4 : newC l W H = rngC l := by simp [newC, h1]
    simp only [NwR, e4]
    have hb : (rngC l != 0) = true := by simp [h1]
    clear e4
    have hne := Lib.hid h1
    clear h1
    generalize rngC l = rc at *
    go_enter Tryz.func181, Tryz.ntmps181
    go_wp2_with (first
      | (go_at_call 221; (with_reducible refine (hRg _ (by exact hb0)).mono ?_); rintro e w1 ⟨rfl, rfl⟩))
    go_returns
    exact ⟨none, rfl, ⟨fun _ => rfl, fun h => absurd h hne.out⟩, hb0⟩
end Go.Proofs.YtlbiiljncacdoaaGreat
