/- Several texts in one: The least and the greatest stand at corners: plain. Places of a part: pixel by pixel and step by step; kinds whose least and greatest stand at corners. -/
import Derived.Test.YtlbiiljncacdoaaGreatKM
import Derived.Test.YtlbiiljncacdoaaGreatHs0
import Derived.Test.YtlbiiljncacdoaaGreatK1
import Derived.Test.YtlbiiljncacdoaaGreatKN
import Derived.Test.YtlbiiljncacdoaaGreatXI
section
set_option linter.unusedVariables false
namespace Go.Proofs.YtlbiiljncacdoaaGreat
open Go.RowKit
/-- What stands within a rectangle lies between what stands at its corners. -/
def Mid (f : Int → Int → Int) (x0 y0 x1 y1 : Int) : Prop := ∀ X Y, x0 ≤ X → X ≤ x1 → y0 ≤ Y → Y ≤ y1 → coU f x0 y0 x1 y1 ≤ f X Y ∧ f X Y ≤ coV f x0 y0 x1 y1
theorem box_nn {p q r u v a b c e : Int} (hu : a ≤ u ∧ u ≤ b) (hv : c ≤ v ∧ v ≤ e) (h1 : 0 ≤ p * a + q * c + r) (h2 : 0 ≤ p * b + q * c + r) (h3 : 0 ≤ p * a + q * e + r) (h4 : 0 ≤ p * b + q * e + r) : 0 ≤ p * u + q * v + r := by
  have := box_pos (p := p) (q := q) (r := r + 1) (d := 1) (u := u) (v := v) (a := a) (b := b) (c := c) (e := e) (by decide) (by omega) (by omega) (by omega) (by omega) (by omega) (by omega)
  omega
theorem fq_le {a b t : Int} (hb : 0 < b) : t ≤ fq a b ↔ t * b ≤ a := by
  unfold fq; rw [if_neg (by omega)]; exact Int.le_ediv_iff_mul_le hb
theorem fq_neg (a b : Int) (hb : b < 0) : fq a b = fq (-a) (-b) := by unfold fq; rw [if_pos hb, if_neg (by omega)]
/-- A fraction of two straight lines, rounded down: what is divided by is above 0. -/
theorem mid_pos {p q r p' q' r' x0 y0 x1 y1 : Int} (h : ∀ X Y, (X = x0 ∨ X = x1) → (Y = y0 ∨ Y = y1) → 0 < p' * X + q' * Y + r') : Mid (fun X Y => fq (p * X + q * Y + r) (p' * X + q' * Y + r')) x0 y0 x1 y1 := by
  intro X Y hx0 hx1 hy0 hy1
  have h1 := h x0 y0 (.inl rfl) (.inl rfl)
  have h2 := h x1 y0 (.inr rfl) (.inl rfl)
  have h3 := h x0 y1 (.inl rfl) (.inr rfl)
  have h4 := h x1 y1 (.inr rfl) (.inr rfl)
  have hM : 0 < p' * X + q' * Y + r' := by
    have := box_pos (p := p') (q := q') (r := r') (d := 1) (u := X) (v := Y) (a := x0) (b := x1) (c := y0) (e := y1) (by decide) (by omega) (by omega) h1 h2 h3 h4
    omega
  have key : ∀ t, t * (p' * x0 + q' * y0 + r') ≤ p * x0 + q * y0 + r → t * (p' * x1 + q' * y0 + r') ≤ p * x1 + q * y0 + r → t * (p' * x0 + q' * y1 + r') ≤ p * x0 + q * y1 + r → t * (p' * x1 + q' * y1 + r') ≤ p * x1 + q * y1 + r → t * (p' * X + q' * Y + r') ≤ p * X + q * Y + r := by
    intro t k1 k2 k3 k4
    have := box_nn (p := p - t * p') (q := q - t * q') (r := r - t * r') (u := X) (v := Y) (a := x0) (b := x1) (c := y0) (e := y1) ⟨hx0, hx1⟩ ⟨hy0, hy1⟩ (by grind) (by grind) (by grind) (by grind)
    grind
  constructor
  · show coU _ _ _ _ _ ≤ fq _ _
    rw [fq_le hM]
    refine key _ ((fq_le h1).1 ?_) ((fq_le h2).1 ?_) ((fq_le h3).1 ?_) ((fq_le h4).1 ?_)
    all_goals
      unfold coU
      dsimp only
      omega
  · have key2 : ∀ t, p * x0 + q * y0 + r < t * (p' * x0 + q' * y0 + r') → p * x1 + q * y0 + r < t * (p' * x1 + q' * y0 + r') → p * x0 + q * y1 + r < t * (p' * x0 + q' * y1 + r') → p * x1 + q * y1 + r < t * (p' * x1 + q' * y1 + r') → p * X + q * Y + r < t * (p' * X + q' * Y + r') := by
      intro t k1 k2 k3 k4
      have := box_pos (p := t * p' - p) (q := t * q' - q) (r := t * r' - r) (d := 1) (u := X) (v := Y) (a := x0) (b := x1) (c := y0) (e := y1) (by decide) (by omega) (by omega) (by grind) (by grind) (by grind) (by grind)
      grind
    have lt : ∀ (a b t : Int), 0 < b → fq a b < t → a < t * b := fun a b t hb hlt => Int.not_le.1 (fun h => by have := (fq_le hb).2 h; omega)
    have gt : ∀ (a b t : Int), 0 < b → a < t * b → fq a b < t := fun a b t hb hlt => Int.not_le.1 (fun h => by have := (fq_le hb).1 h; omega)
    have := gt _ _ _ hM (key2 (coV (fun X Y => fq (p * X + q * Y + r) (p' * X + q' * Y + r')) x0 y0 x1 y1 + 1) (lt _ _ _ h1 (by unfold coV; dsimp only; omega)) (lt _ _ _ h2 (by unfold coV; dsimp only; omega)) (lt _ _ _ h3 (by unfold coV; dsimp only; omega)) (lt _ _ _ h4 (by unfold coV; dsimp only; omega)))
    show fq _ _ ≤ coV _ _ _ _ _
    omega
theorem mid_neg {p q r p' q' r' x0 y0 x1 y1 : Int} (h : ∀ X Y, x0 ≤ X → X ≤ x1 → y0 ≤ Y → Y ≤ y1 → p' * X + q' * Y + r' < 0) (hx : x0 ≤ x1) (hy : y0 ≤ y1) : Mid (fun X Y => fq (p * X + q * Y + r) (p' * X + q' * Y + r')) x0 y0 x1 y1 := by
  have hm := mid_pos (p := -p) (q := -q) (r := -r) (p' := -p') (q' := -q') (r' := -r') (x0 := x0) (y0 := y0) (x1 := x1) (y1 := y1) (fun X Y hX hY => by
    have := h X Y (by omega) (by omega) (by omega) (by omega)
    grind)
  have e : ∀ X Y, x0 ≤ X → X ≤ x1 → y0 ≤ Y → Y ≤ y1 → fq (-p * X + -q * Y + -r) (-p' * X + -q' * Y + -r') = fq (p * X + q * Y + r) (p' * X + q' * Y + r') := fun X Y a b c d => by
    rw [fq_neg (p * X + q * Y + r) _ (h X Y a b c d)]
    congr 1 <;> grind
  intro X Y a b c d
  have h1 := hm X Y a b c d
  have e0 := e X Y a b c d
  have e1 := e x0 y0 (by omega) hx (by omega) hy
  have e2 := e x1 y0 hx (by omega) (by omega) hy
  have e3 := e x0 y1 (by omega) hx hy (by omega)
  have e4 := e x1 y1 hx (by omega) hy (by omega)
  unfold coU coV at *
  simp only [e0, e1, e2, e3, e4] at h1
  exact h1
/-- Of a map that keeps the order. -/
theorem Mid.map {f : Int → Int → Int} {x0 y0 x1 y1 : Int} (h : Mid f x0 y0 x1 y1) {φ : Int → Int} (hφ : ∀ a b, a ≤ b → φ a ≤ φ b) : Mid (fun X Y => φ (f X Y)) x0 y0 x1 y1 := by
  intro X Y a b c d
  obtain ⟨h1, h2⟩ := h X Y a b c d
  unfold coU coV at *
  have k1 := hφ (f X Y) (f x0 y0)
  have k2 := hφ (f X Y) (f x1 y0)
  have k3 := hφ (f X Y) (f x0 y1)
  have k4 := hφ (f X Y) (f x1 y1)
  have l1 := hφ (f x0 y0) (f X Y)
  have l2 := hφ (f x1 y0) (f X Y)
  have l3 := hφ (f x0 y1) (f X Y)
  have l4 := hφ (f x1 y1) (f X Y)
  constructor <;> (dsimp only; omega)
theorem Mid.congr {f g : Int → Int → Int} {x0 y0 x1 y1 : Int} (h : Mid f x0 y0 x1 y1) (hx : x0 ≤ x1) (hy : y0 ≤ y1) (e : ∀ X Y, x0 ≤ X → X ≤ x1 → y0 ≤ Y → Y ≤ y1 → f X Y = g X Y) : Mid g x0 y0 x1 y1 := by
  intro X Y a b c d
  have h1 := h X Y a b c d
  have e0 := e X Y a b c d
  have e1 := e x0 y0 (by omega) hx (by omega) hy
  have e2 := e x1 y0 hx (by omega) (by omega) hy
  have e3 := e x0 y1 (by omega) hx hy (by omega)
  have e4 := e x1 y1 hx (by omega) hy (by omega)
  unfold coU coV at *
  simp only [e0, e1, e2, e3, e4] at h1
  exact h1
theorem cutF_mono (a b : Int) (h : a ≤ b) : cutF a ≤ cutF b := by unfold cutF; repeat' split <;> omega
/-- The corners' box is the least one around all places. -/
theorem bxd_corner {S : Int → Int → Prop} {F G : Int → Int → Int} {x0 y0 x1 y1 : Int} (hF : Mid F x0 y0 x1 y1) (hG : Mid G x0 y0 x1 y1) (hS : ∀ X Y, S X Y → (x0 ≤ X ∧ X ≤ x1) ∧ (y0 ≤ Y ∧ Y ≤ y1)) (h1 : S x0 y0) (h2 : S x1 y0) (h3 : S x0 y1) (h4 : S x1 y1) :
    Bxd S F G (coU F x0 y0 x1 y1) (coU G x0 y0 x1 y1) (coV F x0 y0 x1 y1) (coV G x0 y0 x1 y1) := by
  refine ⟨fun X Y h => ?_, ?_, ?_, ?_, ?_⟩
  · obtain ⟨⟨a, b⟩, c, d⟩ := hS X Y h
    exact ⟨hF X Y a b c d, hG X Y a b c d⟩
  · exact min_or (P := fun z => ∃ x y, S x y ∧ z = F x y) ⟨_, _, h1, rfl⟩ (min_or (P := fun z => ∃ x y, S x y ∧ z = F x y) ⟨_, _, h2, rfl⟩ (min_or (P := fun z => ∃ x y, S x y ∧ z = F x y) ⟨_, _, h3, rfl⟩ ⟨_, _, h4, rfl⟩))
  · exact min_or (P := fun z => ∃ x y, S x y ∧ z = G x y) ⟨_, _, h1, rfl⟩ (min_or (P := fun z => ∃ x y, S x y ∧ z = G x y) ⟨_, _, h2, rfl⟩ (min_or (P := fun z => ∃ x y, S x y ∧ z = G x y) ⟨_, _, h3, rfl⟩ ⟨_, _, h4, rfl⟩))
  · exact max_or (P := fun z => ∃ x y, S x y ∧ z = F x y) ⟨_, _, h1, rfl⟩ (max_or (P := fun z => ∃ x y, S x y ∧ z = F x y) ⟨_, _, h2, rfl⟩ (max_or (P := fun z => ∃ x y, S x y ∧ z = F x y) ⟨_, _, h3, rfl⟩ ⟨_, _, h4, rfl⟩))
  · exact max_or (P := fun z => ∃ x y, S x y ∧ z = G x y) ⟨_, _, h1, rfl⟩ (max_or (P := fun z => ∃ x y, S x y ∧ z = G x y) ⟨_, _, h2, rfl⟩ (max_or (P := fun z => ∃ x y, S x y ∧ z = G x y) ⟨_, _, h3, rfl⟩ ⟨_, _, h4, rfl⟩))
end Go.Proofs.YtlbiiljncacdoaaGreat
end
section
set_option linter.unusedVariables false
namespace Go.Proofs.YtlbiiljncacdoaaGreat
open Go.RowKit
theorem plD_eq {n : Int} (hn : 0 ≤ n) : plD n = paD n := by unfold plD paD; split <;> omega
theorem plD_bd {n : Int} (hn : 0 ≤ n ∧ n ≤ 8) : 1 ≤ plD n ∧ plD n ≤ 16 := by unfold plD; split <;> omega
theorem stp_12 (n : Int) : stp n = 1 ∨ stp n = 2 := by unfold stp; split <;> simp
/-- The pixels' places are every step's. -/
theorem px_al {n a b c d X Y : Int} (hn : 0 ≤ n ∧ n ≤ 8) : PxS n a b c d X Y ↔ AlS (stp n) (paF n a) (paF n b) (paL n (c - 1)) (paL n (d - 1)) X Y := by
  by_cases h0 : n = 0
  · subst h0
    have e1 : stp 0 = 1 := by decide
    have e2 : plM 0 = 1 := by decide
    rw [e1]
    unfold PxS AlS On
    rw [e2]
    simp only [paF, paL, plX, plY, if_true]
    constructor
    · rintro ⟨x, y, q, h, hq, rfl, rfl⟩
      omega
    · intro h
      exact ⟨X, Y, 0, by omega, by omega, rfl, rfl⟩
  · have hn1 : 1 ≤ n := by omega
    have e1 : stp n = 2 := by unfold stp; rw [if_pos (by omega)]
    have e2 : plM n = (n * n).toNat := by unfold plM; rw [if_neg h0]
    have hnn : 1 * 1 ≤ n * n := Int.mul_le_mul hn1 hn1 (by omega) (by omega)
    rw [e1]
    unfold PxS AlS On
    rw [e2]
    simp only [paF, paL, plX, plY, if_neg h0]
    have lin : ∀ {u v : Int}, u ≤ v → 2 * n * u ≤ 2 * n * v := fun h => Int.mul_le_mul_of_nonneg_left h (by omega)
    constructor
    · rintro ⟨x, y, q, ⟨h1, h2, h3, h4⟩, hq, rfl, rfl⟩
      have r0 := Int.emod_nonneg (q : Int) h0
      have r1 := Int.emod_lt_of_pos (q : Int) (show 0 < n by omega)
      have q0 : 0 ≤ (q : Int) / n := Int.ediv_nonneg (by omega) (by omega)
      have q1 : (q : Int) / n < n := Int.ediv_lt_of_lt_mul (by omega) (by omega)
      have a1 := lin h1
      have a2 := lin (show x ≤ c - 1 by omega)
      have a3 := lin h3
      have a4 := lin (show y ≤ d - 1 by omega)
      have m1 : 2 * n * x - 2 * n * a = 2 * (n * x - n * a) := by grind
      have m2 : 2 * n * y - 2 * n * b = 2 * (n * y - n * b) := by grind
      generalize 2 * n * x = X at *
      generalize 2 * n * y = Y at *
      generalize 2 * n * a = A at *
      generalize 2 * n * b = B at *
      generalize 2 * n * (c - 1) = C at *
      generalize 2 * n * (d - 1) = D at *
      generalize n * x - n * a = u at *
      generalize n * y - n * b = v at *
      omega
    · rintro ⟨⟨⟨h1, h2⟩, h3⟩, ⟨h4, h5⟩, h6⟩
      have key : ∀ (X a c : Int), 2 * n * a + 1 - n ≤ X → (X - (2 * n * a + 1 - n)) % 2 = 0 → X ≤ 2 * n * (c - 1) + n - 1 → ∃ x r : Int, (a ≤ x ∧ x < c) ∧ (0 ≤ r ∧ r < n) ∧ X = 2 * n * x + 2 * r + 1 - n := by
        intro X a c g1 g2 g3
        obtain ⟨i, hi⟩ : ∃ i, (X - (2 * n * a + 1 - n)) / 2 = i := ⟨_, rfl⟩
        have hX : X = 2 * n * a + 1 - n + 2 * i := by omega
        have r0 := Int.emod_nonneg i h0
        have r1 := Int.emod_lt_of_pos i (show 0 < n by omega)
        have q0 : 0 ≤ i / n := Int.ediv_nonneg (by omega) (by omega)
        have e := Int.emod_add_mul_ediv i n
        refine ⟨a + i / n, i % n, ⟨by omega, ?_⟩, ⟨r0, r1⟩, ?_⟩
        · have : i / n < c - a := by
            apply Int.ediv_lt_of_lt_mul (by omega)
            have e2 : 2 * n * (c - 1) = 2 * ((c - a) * n) + 2 * n * a - 2 * n := by grind
            generalize 2 * n * (c - 1) = P at *
            generalize (c - a) * n = Q at *
            generalize 2 * n * a = R at *
            omega
          omega
        · have e2 : 2 * n * (a + i / n) = 2 * n * a + 2 * (n * (i / n)) := by grind
          rw [e2, hX]
          generalize n * (i / n) = P at *
          omega
      obtain ⟨x, rx, hx, hrx, eX⟩ := key X a c h1 h2 h3
      obtain ⟨y, ry, hy, hry, eY⟩ := key Y b d h4 h5 h6
      have m0 : 0 ≤ ry * n := Int.mul_nonneg hry.1 (by omega)
      have m1 : ry * n ≤ (n - 1) * n := Int.mul_le_mul_of_nonneg_right (by omega) (by omega)
      have m2 : (n - 1) * n = n * n - n := by grind
      have hc : (((ry * n + rx).toNat : Nat) : Int) = ry * n + rx := Int.toNat_of_nonneg (by omega)
      refine ⟨x, y, (ry * n + rx).toNat, ⟨hx.1, hx.2, hy.1, hy.2⟩, by omega, ?_, ?_⟩
      · have g1 : (ry * n + rx) % n = rx := by rw [Int.add_comm (ry * n) rx, Int.add_mul_emod_self_right]; exact Int.emod_eq_of_lt hrx.1 hrx.2
        rw [hc, g1]; exact eX
      · have g2 : (ry * n + rx) / n = ry := by rw [Int.add_comm (ry * n) rx, Int.add_mul_ediv_right _ _ h0, Int.ediv_eq_zero_of_lt hrx.1 hrx.2]; omega
        rw [hc, g2]; exact eY
theorem ax_in {n a c x W : Int} (hn : 0 ≤ n ∧ n ≤ 8) (ha : 0 ≤ a) (hc : c ≤ W) (hW : 1 ≤ W ∧ W ≤ 32768) (h1 : paF n a ≤ x) (h2 : x ≤ paL n (c - 1)) : (-plD n ≤ 2 * x ∧ 2 * x ≤ (2 * W - 1) * plD n) ∧ (-1048576 ≤ x ∧ x ≤ 1048576) := by
  unfold paF at h1
  unfold paL at h2
  unfold plD
  by_cases h0 : n = 0
  · rw [if_pos h0] at *; omega
  · rw [if_neg h0] at *
    have m1 : 0 ≤ 2 * n * a := Int.mul_nonneg (by omega) ha
    have m2 : 2 * n * (c - 1) ≤ 2 * n * (W - 1) := Int.mul_le_mul_of_nonneg_left (by omega) (by omega)
    have m3 : 2 * n * (W - 1) ≤ 16 * 32767 := Int.mul_le_mul (by omega) (by omega) (by omega) (by omega)
    have m4 : (2 * W - 1) * (2 * n) = 2 * (2 * n * (W - 1)) + 2 * n := by grind
    rw [m4]
    generalize 2 * n * a = A at *
    generalize 2 * n * (c - 1) = C at *
    generalize 2 * n * (W - 1) = V at *
    omega
theorem tu_lin (q W H : Int) : ∃ p r s : Int, ∀ X Y, tuU q W H X Y = p * X + r * Y + s := by
  unfold tuU tu0
  by_cases h3 : 3 < q
  · by_cases h1 : q % 4 = 1
    · exact ⟨0, -1, W, fun X Y => by rw [if_pos h3, if_pos h1]; omega⟩
    by_cases h2 : q % 4 = 2
    · exact ⟨1, 0, 0, fun X Y => by rw [if_pos h3, if_neg h1, if_pos h2]; omega⟩
    by_cases h4 : q % 4 = 3
    · exact ⟨0, 1, 0, fun X Y => by rw [if_pos h3, if_neg h1, if_neg h2, if_pos h4]; omega⟩
    · exact ⟨-1, 0, W, fun X Y => by rw [if_pos h3, if_neg h1, if_neg h2, if_neg h4]; omega⟩
  · by_cases h1 : q % 4 = 1
    · exact ⟨0, 1, 0, fun X Y => by rw [if_neg h3, if_pos h1]; omega⟩
    by_cases h2 : q % 4 = 2
    · exact ⟨-1, 0, W, fun X Y => by rw [if_neg h3, if_neg h1, if_pos h2]; omega⟩
    by_cases h4 : q % 4 = 3
    · exact ⟨0, -1, W, fun X Y => by rw [if_neg h3, if_neg h1, if_neg h2, if_pos h4]; omega⟩
    · exact ⟨1, 0, 0, fun X Y => by rw [if_neg h3, if_neg h1, if_neg h2, if_neg h4]; omega⟩
theorem tv_lin (q W H : Int) : ∃ p r s : Int, ∀ X Y, tuV q W H X Y = p * X + r * Y + s := by
  unfold tuV
  by_cases h1 : q % 4 = 1
  · exact ⟨-1, 0, H, fun X Y => by rw [if_pos h1]; omega⟩
  by_cases h2 : q % 4 = 2
  · exact ⟨0, -1, H, fun X Y => by rw [if_neg h1, if_pos h2]; omega⟩
  by_cases h4 : q % 4 = 3
  · exact ⟨1, 0, 0, fun X Y => by rw [if_neg h1, if_neg h2, if_pos h4]; omega⟩
  · exact ⟨0, 1, 0, fun X Y => by rw [if_neg h1, if_neg h2, if_neg h4]; omega⟩
theorem mid_div {f : Int → Int → Int} {p q r d x0 y0 x1 y1 : Int} (hd : 0 < d) (hx : x0 ≤ x1) (hy : y0 ≤ y1) (e : ∀ X Y, x0 ≤ X → X ≤ x1 → y0 ≤ Y → Y ≤ y1 → f X Y = 65536 * (p * X + q * Y + r) / d) : Mid f x0 y0 x1 y1 := by
  refine (mid_pos (p := 65536 * p) (q := 65536 * q) (r := 65536 * r) (p' := 0) (q' := 0) (r' := d) (x0 := x0) (y0 := y0) (x1 := x1) (y1 := y1) (fun X Y _ _ => by omega)).congr hx hy (fun X Y a b c d' => ?_)
  rw [e X Y a b c d']
  unfold fq
  rw [if_neg (by omega)]
  congr 1
  · grind
  · omega
theorem mid_plc {f : Int → Int → Int} {p q r p' q' r' x0 y0 x1 y1 : Int} (hx : x0 ≤ x1) (hy : y0 ≤ y1)
    (hs : (∀ X Y, x0 ≤ X → X ≤ x1 → y0 ≤ Y → Y ≤ y1 → 0 < p' * X + q' * Y + r') ∨ (∀ X Y, x0 ≤ X → X ≤ x1 → y0 ≤ Y → Y ≤ y1 → p' * X + q' * Y + r' < 0))
    (e : ∀ X Y, x0 ≤ X → X ≤ x1 → y0 ≤ Y → Y ≤ y1 → f X Y = plc (p * X + q * Y + r) (p' * X + q' * Y + r')) : Mid f x0 y0 x1 y1 := by
  have e2 : ∀ X Y, x0 ≤ X → X ≤ x1 → y0 ≤ Y → Y ≤ y1 → cutF (fq (65536 * p * X + 65536 * q * Y + 65536 * r) (p' * X + q' * Y + r')) = f X Y := fun X Y a b c d => by
    rw [e X Y a b c d]
    unfold plc
    congr 2
    grind
  rcases hs with hs | hs
  · exact ((mid_pos (p := 65536 * p) (q := 65536 * q) (r := 65536 * r) (fun X Y hX hY => hs X Y (by omega) (by omega) (by omega) (by omega))).map cutF_mono).congr hx hy e2
  · exact ((mid_neg (p := 65536 * p) (q := 65536 * q) (r := 65536 * r) hs hx hy).map cutF_mono).congr hx hy e2
/-- Of an affine map, one of straight lines and a turn. -/
theorem mid_kind {k : Int} {l : List Int} {W H D x0 y0 x1 y1 : Int} (hc : xC k l W H = 0) (hk : k = 1 ∨ k = 2 ∨ k = 6) (hD : 1 ≤ D ∧ D ≤ 16) (hx : x0 ≤ x1) (hy : y0 ≤ y1)
    (hin : ∀ X Y, x0 ≤ X → X ≤ x1 → y0 ≤ Y → Y ≤ y1 → rightH X Y D = true ∧ -D ≤ 2 * X ∧ 2 * X ≤ (2 * W - 1) * D ∧ -D ≤ 2 * Y ∧ 2 * Y ≤ (2 * H - 1) * D) :
    Mid (fun X Y => xF k l X Y D) x0 y0 x1 y1 ∧ Mid (fun X Y => xG k l X Y D) x0 y0 x1 y1 := by
  obtain ⟨_, hs, hxk⟩ := xC_zero hc
  obtain ⟨hW, hH⟩ := szH_iff.1 hs
  rcases hk with rfl | rfl | rfl
  · have hdt : dtA l ≠ 0 := (afC_zero.1 hxk).2
    have hsg : (∀ X Y : Int, x0 ≤ X → X ≤ x1 → y0 ≤ Y → Y ≤ y1 → 0 < 0 * X + 0 * Y + dtA l * D) ∨ (∀ X Y : Int, x0 ≤ X → X ≤ x1 → y0 ≤ Y → Y ≤ y1 → 0 * X + 0 * Y + dtA l * D < 0) := by
      rcases Int.lt_or_lt_of_ne hdt with h | h
      · exact .inr (fun X Y _ _ _ _ => by have := Int.mul_neg_of_neg_of_pos h (show 0 < D by omega); omega)
      · exact .inl (fun X Y _ _ _ _ => by have := Int.mul_pos h (show 0 < D by omega); omega)
    constructor
    · refine mid_plc (p := afU l 0) (q := afU l 1) (r := afU l 2 * D) hx hy hsg (fun X Y a b c d => ?_)
      show afX l X Y D = _
      unfold afX smR
      rw [if_pos (hin X Y a b c d).1]
      congr 1; omega
    · refine mid_plc (p := afU l 3) (q := afU l 4) (r := afU l 5 * D) hx hy hsg (fun X Y a b c d => ?_)
      show afY l X Y D = _
      unfold afY smR
      rw [if_pos (hin X Y a b c d).1]
      congr 1; omega
  · have hz : newC l W H = 0 := hxk
    have hsg0 := signs_plain hW hH (newC_zero.1 hz).sg
    have hu : ∀ X Y, x0 ≤ X → X ≤ x1 → y0 ≤ Y → Y ≤ y1 → undR (adK (cf l) 9) X Y D = adK (cf l) 9 6 * X + adK (cf l) 9 7 * Y + adK (cf l) 9 8 * D := fun X Y a b c d => by
      unfold undR; rw [if_pos (hin X Y a b c d).1]
    have hsg : (∀ X Y : Int, x0 ≤ X → X ≤ x1 → y0 ≤ Y → Y ≤ y1 → 0 < adK (cf l) 9 6 * X + adK (cf l) 9 7 * Y + adK (cf l) 9 8 * D) ∨ (∀ X Y : Int, x0 ≤ X → X ≤ x1 → y0 ≤ Y → Y ≤ y1 → adK (cf l) 9 6 * X + adK (cf l) 9 7 * Y + adK (cf l) 9 8 * D < 0) := by
      rcases hsg0 with h | h
      · refine .inl (fun X Y a b c d => ?_)
        obtain ⟨i1, i2, i3, i4, i5⟩ := hin X Y a b c d
        rw [← hu X Y a b c d]
        exact h X Y D i1 i2 i3 i4 i5
      · refine .inr (fun X Y a b c d => ?_)
        obtain ⟨i1, i2, i3, i4, i5⟩ := hin X Y a b c d
        rw [← hu X Y a b c d]
        exact h X Y D i1 i2 i3 i4 i5
    have hne : ∀ X Y, x0 ≤ X → X ≤ x1 → y0 ≤ Y → Y ≤ y1 → undR (adK (cf l) 9) X Y D ≠ 0 := fun X Y a b c d => by
      rw [hu X Y a b c d]
      rcases hsg with h | h
      · have := h X Y a b c d; omega
      · have := h X Y a b c d; omega
    constructor
    · refine mid_plc (p := adK (cf l) 9 0) (q := adK (cf l) 9 1) (r := adK (cf l) 9 2 * D) hx hy hsg (fun X Y a b c d => ?_)
      show atX (adK (cf l) 9) X Y D = _
      unfold atX
      rw [if_pos ⟨(hin X Y a b c d).1, hne X Y a b c d⟩, hu X Y a b c d]
      rfl
    · refine mid_plc (p := adK (cf l) 9 3) (q := adK (cf l) 9 4) (r := adK (cf l) 9 5 * D) hx hy hsg (fun X Y a b c d => ?_)
      show atY (adK (cf l) 9) X Y D = _
      unfold atY
      rw [if_pos ⟨(hin X Y a b c d).1, hne X Y a b c d⟩, hu X Y a b c d]
      rfl
  · obtain ⟨p, q, r, e1⟩ := tu_lin (cf l 0) ((cf l 1 - 1) * D) ((cf l 2 - 1) * D)
    obtain ⟨p', q', r', e2⟩ := tv_lin (cf l 0) ((cf l 1 - 1) * D) ((cf l 2 - 1) * D)
    constructor
    · refine mid_div (p := p) (q := q) (r := r) (d := D) (by omega) hx hy (fun X Y a b c d => ?_)
      show tuF l X Y D = _
      unfold tuF tuPx
      rw [if_pos (hin X Y a b c d).1, e1]
    · refine mid_div (p := p') (q := q') (r := r') (d := D) (by omega) hx hy (fun X Y a b c d => ?_)
      show tuG l X Y D = _
      unfold tuG tuPy
      rw [if_pos (hin X Y a b c d).1, e2]
end Go.Proofs.YtlbiiljncacdoaaGreat
end
