/- Each place of a part comes from within its box; the box of a part of it lies within: plain. -/
import Derived.Test.YtlbiiljncacdoaaGreatKP
set_option linter.unusedVariables false
namespace Go.Proofs.YtlbiiljncacdoaaGreat
open Go.RowKit
theorem meI_cross {g n p p' d d' : Int} (hg : 1 ≤ g) (hn : 1 ≤ n) (hd : 1 ≤ d) (hd' : 1 ≤ d') (h : p * d' ≤ p' * d) : meI g n p d ≤ meI g n p' d' := by
  have hgd : 1 ≤ g * d := by have := Int.mul_le_mul hg hd (by omega) (by omega); simpa using this
  have hgd' : 1 ≤ g * d' := by have := Int.mul_le_mul hg hd' (by omega) (by omega); simpa using this
  have hq : meQ g n p d * d' ≤ meQ g n p' d' * d := by
    unfold meQ
    have e1 : max 0 (min p (g * n * d)) * d' = max 0 (min (p * d') (g * n * d * d')) := by
      rcases Int.le_total p (g * n * d) with h1 | h1
      · rw [Int.min_eq_left h1, Int.min_eq_left (Int.mul_le_mul_of_nonneg_right h1 (by omega))]
        rcases Int.le_total 0 p with h2 | h2
        · rw [Int.max_eq_right h2, Int.max_eq_right (Int.mul_nonneg h2 (by omega))]
        · rw [Int.max_eq_left h2, Int.max_eq_left (Int.mul_nonpos_of_nonpos_of_nonneg h2 (by omega)), Int.zero_mul]
      · rw [Int.min_eq_right h1, Int.min_eq_right (Int.mul_le_mul_of_nonneg_right h1 (by omega))]
        have h2 : 0 ≤ g * n * d := Int.mul_nonneg (Int.mul_nonneg (by omega) (by omega)) (by omega)
        rw [Int.max_eq_right h2, Int.max_eq_right (Int.mul_nonneg h2 (by omega))]
    have e2 : max 0 (min p' (g * n * d')) * d = max 0 (min (p' * d) (g * n * d' * d)) := by
      rcases Int.le_total p' (g * n * d') with h1 | h1
      · rw [Int.min_eq_left h1, Int.min_eq_left (Int.mul_le_mul_of_nonneg_right h1 (by omega))]
        rcases Int.le_total 0 p' with h2 | h2
        · rw [Int.max_eq_right h2, Int.max_eq_right (Int.mul_nonneg h2 (by omega))]
        · rw [Int.max_eq_left h2, Int.max_eq_left (Int.mul_nonpos_of_nonpos_of_nonneg h2 (by omega)), Int.zero_mul]
      · rw [Int.min_eq_right h1, Int.min_eq_right (Int.mul_le_mul_of_nonneg_right h1 (by omega))]
        have h2 : 0 ≤ g * n * d' := Int.mul_nonneg (Int.mul_nonneg (by omega) (by omega)) (by omega)
        rw [Int.max_eq_right h2, Int.max_eq_right (Int.mul_nonneg h2 (by omega))]
    rw [e1, e2, show g * n * d' * d = g * n * d * d' by grind]
    omega
  have hi : meQ g n p d / (g * d) ≤ meQ g n p' d' / (g * d') := by
    rw [Int.le_ediv_iff_mul_le (by omega)]
    have k := Int.ediv_mul_le (meQ g n p d) (show g * d ≠ 0 by omega)
    have k2 := Int.mul_le_mul_of_nonneg_right k (show 0 ≤ d' by omega)
    have k3 : meQ g n p d / (g * d) * (g * d) * d' = meQ g n p d / (g * d) * (g * d') * d := by grind
    rw [k3] at k2
    exact Int.le_of_mul_le_mul_right (Int.le_trans k2 hq) (by omega)
  unfold meI; omega
theorem ax_part {n a c x : Int} (hn : 0 ≤ n ∧ n ≤ 8) (h1 : paF n a ≤ x) (h2 : x ≤ paL n (c - 1)) : (2 * a - 1) * plD n ≤ x * 2 ∧ x * 2 ≤ (2 * c - 1) * plD n := by
  unfold paF at h1
  unfold paL at h2
  unfold plD
  by_cases h0 : n = 0
  · rw [if_pos h0] at *; omega
  · rw [if_neg h0] at *
    have m1 : (2 * a - 1) * (2 * n) = 2 * (2 * n * a) - 2 * n := by grind
    have m2 : (2 * c - 1) * (2 * n) = 2 * (2 * n * (c - 1)) + 2 * n := by grind
    rw [m1, m2]
    generalize 2 * n * a = A at *
    generalize 2 * n * (c - 1) = C at *
    omega
theorem mean_in {v b : Nat → Int} {u s : Int} (hb : ∀ j, 0 ≤ b j) (hv : ∀ j, j < 4 → u ≤ v j ∧ v j ≤ s) (hA : 0 < mxa b 4) : u ≤ fq (mxs v b 4) (mxa b 4) ∧ fq (mxs v b 4) (mxa b 4) ≤ s := by
  have l : ∀ j, j ≤ 4 → u * mxa b j ≤ mxs v b j ∧ mxs v b j ≤ s * mxa b j := by
    intro j
    induction j with
    | zero => intro _; simp [mxa, mxs]
    | succ j ih =>
      intro hj
      obtain ⟨i1, i2⟩ := ih (by omega)
      obtain ⟨h1, h2⟩ := hv j (by omega)
      have k1 := Int.mul_le_mul_of_nonneg_left h1 (hb j)
      have k2 := Int.mul_le_mul_of_nonneg_left h2 (hb j)
      have e1 : u * (mxa b j + b j) = u * mxa b j + b j * u := by grind
      have e2 : s * (mxa b j + b j) = s * mxa b j + b j * s := by grind
      show u * (mxa b j + b j) ≤ mxs v b j + b j * v j ∧ mxs v b j + b j * v j ≤ s * (mxa b j + b j)
      rw [e1, e2]
      omega
  obtain ⟨l1, l2⟩ := l 4 (by omega)
  refine ⟨(fq_le hA).2 l1, ?_⟩
  have k := (fq_le (a := mxs v b 4) (t := fq (mxs v b 4) (mxa b 4)) hA).1 (Int.le_refl _)
  exact Int.le_of_mul_le_mul_right (Int.le_trans k l2) hA
theorem cut_in {u s z : Int} (h : u ≤ z ∧ z ≤ s) (hu : -2147483648 ≤ u) (hs : s ≤ 2147483648) : u ≤ cutF z ∧ cutF z ≤ s := by
  unfold cutF; rw [if_neg (by omega), if_neg (by omega)]; exact h
/-- Where a place of a part comes from, by a mesh, lies between its knots. -/
theorem mesh_in {l : List Int} (hF : MeF l) {a b c d n u v s t X Y : Int} (hn : 0 ≤ n ∧ n ≤ 8) (h : Bxd (KnR l a b c d) (knX l) (knY l) u v s t) (hp : rightH X Y (plD n) = true) (x0 : paF n a ≤ X) (x1 : X ≤ paL n (c - 1)) (y0 : paF n b ≤ Y) (y1 : Y ≤ paL n (d - 1)) :
    (u ≤ meU l X Y (plD n) ∧ meU l X Y (plD n) ≤ s) ∧ (v ≤ meVv l X Y (plD n) ∧ meVv l X Y (plD n) ≤ t) := by
  obtain ⟨d0, d1⟩ := plD_bd hn
  obtain ⟨q1, q2⟩ := ax_part hn x0 x1
  obtain ⟨q3, q4⟩ := ax_part hn y0 y1
  have i1 := meI_cross (g := cf l 0) (n := cf l 2) (p := 2 * a - 1) (p' := X) (d := 2) (d' := plD n) hF.gx.1 hF.nx.1 (by decide) d0 q1
  have i2 := meI_cross (g := cf l 0) (n := cf l 2) (p := X) (p' := 2 * c - 1) (d := plD n) (d' := 2) hF.gx.1 hF.nx.1 d0 (by decide) q2
  have i3 := meI_cross (g := cf l 1) (n := cf l 3) (p := 2 * b - 1) (p' := Y) (d := 2) (d' := plD n) hF.gy.1 hF.ny.1 (by decide) d0 q3
  have i4 := meI_cross (g := cf l 1) (n := cf l 3) (p := Y) (p' := 2 * d - 1) (d := plD n) (d' := 2) hF.gy.1 hF.ny.1 d0 (by decide) q4
  have hK : ∀ i k, (i = meI (cf l 0) (cf l 2) X (plD n) ∨ i = meI (cf l 0) (cf l 2) X (plD n) + 1) → (k = meI (cf l 1) (cf l 3) Y (plD n) ∨ k = meI (cf l 1) (cf l 3) Y (plD n) + 1) → KnR l a b c d i k := by
    intro i k hi hk
    unfold KnR KnS
    omega
  have B1 := meB (g := cf l 0) (n := cf l 2) (p := X) (d := plD n) hF.gx.1 hF.nx.1 d0
  have B2 := meB (g := cf l 1) (n := cf l 3) (p := Y) (d := plD n) hF.gy.1 hF.ny.1 d0
  have hw : ∀ j, 0 ≤ meWt l X Y (plD n) j := by
    intro j
    have t1 := B1.t
    have t2 := B2.t
    unfold meWt
    match j with
    | 0 => exact Int.mul_nonneg (by omega) (by omega)
    | 1 => exact Int.mul_nonneg (by omega) (by omega)
    | 2 => exact Int.mul_nonneg (by omega) (by omega)
    | 3 => exact Int.mul_nonneg (by omega) (by omega)
    | (k + 4) => exact Int.le_refl _
  have hA : 0 < mxa (meWt l X Y (plD n)) 4 := by
    rw [mxa_wt]
    unfold meAl
    have h1 := Int.mul_pos (show 0 < cf l 0 by have := hF.gx; omega) (show 0 < plD n by omega)
    have h2 := Int.mul_pos (show 0 < cf l 1 by have := hF.gy; omega) (show 0 < plD n by omega)
    exact Int.mul_pos h1 h2
  have hv1 : ∀ j, j < 4 → u ≤ meV (knX l) (meI (cf l 0) (cf l 2) X (plD n)) (meI (cf l 1) (cf l 3) Y (plD n)) j ∧ meV (knX l) (meI (cf l 0) (cf l 2) X (plD n)) (meI (cf l 1) (cf l 3) Y (plD n)) j ≤ s := by
    intro j hj
    match j, hj with
    | 0, _ => exact (h.b _ _ (hK _ _ (.inl rfl) (.inl rfl))).1
    | 1, _ => exact (h.b _ _ (hK _ _ (.inr rfl) (.inl rfl))).1
    | 2, _ => exact (h.b _ _ (hK _ _ (.inl rfl) (.inr rfl))).1
    | 3, _ => exact (h.b _ _ (hK _ _ (.inr rfl) (.inr rfl))).1
  have hv2 : ∀ j, j < 4 → v ≤ meV (knY l) (meI (cf l 0) (cf l 2) X (plD n)) (meI (cf l 1) (cf l 3) Y (plD n)) j ∧ meV (knY l) (meI (cf l 0) (cf l 2) X (plD n)) (meI (cf l 1) (cf l 3) Y (plD n)) j ≤ t := by
    intro j hj
    match j, hj with
    | 0, _ => exact (h.b _ _ (hK _ _ (.inl rfl) (.inl rfl))).2
    | 1, _ => exact (h.b _ _ (hK _ _ (.inr rfl) (.inl rfl))).2
    | 2, _ => exact (h.b _ _ (hK _ _ (.inl rfl) (.inr rfl))).2
    | 3, _ => exact (h.b _ _ (hK _ _ (.inr rfl) (.inr rfl))).2
  have m1 := mean_in hw hv1 hA
  have m2 := mean_in hw hv2 hA
  rw [mxa_wt] at m1 m2
  have bu : -2147483648 ≤ u := by obtain ⟨x, y, _, e⟩ := h.u; rw [e]; exact (kn_bd hF x y).1.1
  have bs : s ≤ 2147483648 := by obtain ⟨x, y, _, e⟩ := h.s; rw [e]; exact (kn_bd hF x y).1.2
  have bv : -2147483648 ≤ v := by obtain ⟨x, y, _, e⟩ := h.v; rw [e]; exact (kn_bd hF x y).2.1
  have bt : t ≤ 2147483648 := by obtain ⟨x, y, _, e⟩ := h.t; rw [e]; exact (kn_bd hF x y).2.2
  constructor
  · unfold meU; rw [if_pos hp]; exact cut_in m1 bu bs
  · unfold meVv; rw [if_pos hp]; exact cut_in m2 bv bt
/-- Each place of a part comes from within its box. -/
theorem bxQ_has {k : Int} {l : List Int} {W H a b c d n u v s t X Y : Int} (h : BxOk k l W H a b c d n) (hQ : BxQ k l a b c d n u v s t) (hS : PxS n a b c d X Y) :
    bxHas u v s t (xF k l X Y (plD n)) (xG k l X Y (plD n)) = true := by
  have key : (u ≤ xF k l X Y (plD n) ∧ xF k l X Y (plD n) ≤ s) ∧ (v ≤ xG k l X Y (plD n) ∧ xG k l X Y (plD n) ≤ t) := by
    unfold BxQ at hQ
    by_cases h4 : k = 4
    · subst h4
      rw [if_pos rfl] at hQ
      obtain ⟨⟨g1, g2⟩, g3, g4⟩ := als_in ((px_al h.n0).1 hS)
      exact mesh_in (meC_F (xC_zero h.x).2.2) h.n0 hQ (h.inn X Y g1 g2 g3 g4).1 g1 g2 g3 g4
    · rw [if_neg h4] at hQ
      exact hQ.b X Y hS
  unfold bxHas
  exact decide_eq_true (by omega)
theorem Bxd.sub {S S' : Int → Int → Prop} {F G : Int → Int → Int} {u v s t u' v' s' t' : Int} (h : Bxd S F G u v s t) (h' : Bxd S' F G u' v' s' t') (e : ∀ x y, S' x y → S x y) : (u ≤ u' ∧ u' ≤ s) ∧ (v ≤ v' ∧ v' ≤ t) ∧ (u ≤ s' ∧ s' ≤ s) ∧ (v ≤ t' ∧ t' ≤ t) := by
  obtain ⟨x1, y1, p1, e1⟩ := h'.u
  obtain ⟨x2, y2, p2, e2⟩ := h'.v
  obtain ⟨x3, y3, p3, e3⟩ := h'.s
  obtain ⟨x4, y4, p4, e4⟩ := h'.t
  have a1 := h.b _ _ (e _ _ p1)
  have a2 := h.b _ _ (e _ _ p2)
  have a3 := h.b _ _ (e _ _ p3)
  have a4 := h.b _ _ (e _ _ p4)
  omega
theorem bxQ_sub {k : Int} {l : List Int} {W H a b c d n u v s t a' b' c' d' u' v' s' t' : Int} (h : BxOk k l W H a b c d n) (hQ : BxQ k l a b c d n u v s t) (hQ' : BxQ k l a' b' c' d' n u' v' s' t') (ha : a ≤ a') (hb : b ≤ b') (hc : c' ≤ c) (hd : d' ≤ d) :
    (u ≤ u' ∧ u' ≤ s) ∧ (v ≤ v' ∧ v' ≤ t) ∧ (u ≤ s' ∧ s' ≤ s) ∧ (v ≤ t' ∧ t' ≤ t) := by
  unfold BxQ at hQ hQ'
  by_cases h4 : k = 4
  · rw [if_pos h4] at hQ hQ'
    subst h4
    have hF := meC_F (show meC l W H = 0 from (xC_zero h.x).2.2)
    have i1 := meI_mono (g := cf l 0) (n := cf l 2) (p := 2 * a - 1) (p' := 2 * a' - 1) hF.gx.1 hF.nx.1 (by omega)
    have i2 := meI_mono (g := cf l 0) (n := cf l 2) (p := 2 * c' - 1) (p' := 2 * c - 1) hF.gx.1 hF.nx.1 (by omega)
    have i3 := meI_mono (g := cf l 1) (n := cf l 3) (p := 2 * b - 1) (p' := 2 * b' - 1) hF.gy.1 hF.ny.1 (by omega)
    have i4 := meI_mono (g := cf l 1) (n := cf l 3) (p := 2 * d' - 1) (p' := 2 * d - 1) hF.gy.1 hF.ny.1 (by omega)
    exact hQ.sub hQ' (fun x y hS => by unfold KnR KnS at *; omega)
  · rw [if_neg h4] at hQ hQ'
    exact hQ.sub hQ' (fun X Y ⟨x, y, q, g, r⟩ => ⟨x, y, q, by omega, r⟩)
end Go.Proofs.YtlbiiljncacdoaaGreat
