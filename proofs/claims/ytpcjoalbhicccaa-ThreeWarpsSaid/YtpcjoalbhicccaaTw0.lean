/- Three passes are one: plain. -/
import Derived.Test.YtpcjoalbhicccaaTh24
set_option linter.unusedVariables false
namespace Go.Proofs.Ytpcjoalbhicccaa
open Go.RowKit
--PLAIN
theorem flat_cut {α : Type} (g : α → List Int) (C : Nat) : ∀ (l : List α), (∀ x ∈ l, (g x).length = C) → ∀ i (hi : i < l.length), ((l.flatMap g).drop (i * C)).take C = g l[i]
  | [], _, i, hi => absurd hi (by simp)
  | x :: l, h, 0, _ => by
    have hx := h x (by simp)
    simp only [Nat.zero_mul, List.drop_zero, List.flatMap_cons, List.getElem_cons_zero]
    rw [List.take_append_of_le_length (by omega), List.take_of_length_le (by omega)]
  | x :: l, h, i + 1, hi => by
    have hx := h x (by simp)
    have ih := flat_cut g C l (fun y hy => h y (by simp [hy])) i (by simpa using hi)
    simp only [List.flatMap_cons, List.getElem_cons_succ]
    rw [show (i + 1) * C = (g x).length + i * C by rw [hx, Nat.add_mul]; omega, ← List.drop_drop, List.drop_left]
    exact ih
theorem rowP_get (a y : Int) (w i : Nat) (hi : i < w) : (rowP a y w)[i]? = some (mkP (a + i) y) := by
  induction w with
  | zero => omega
  | succ w ih =>
    rw [rowP]
    by_cases h : i < w
    · rw [List.getElem?_append_left (by rw [rowP_len]; exact h)]; exact ih h
    · obtain rfl : i = w := by omega
      rw [List.getElem?_append_right (by rw [rowP_len]; exact Nat.le_refl _), rowP_len]; simp
theorem plsP_get (a b : Int) (w h j i : Nat) (hj : j < h) (hi : i < w) : (plsP a b w h)[j * w + i]? = some (mkP (a + i) (b + j)) := by
  induction h with
  | zero => omega
  | succ h ih =>
    rw [plsP]
    by_cases e : j < h
    · have : j * w + w ≤ h * w := by rw [← Nat.succ_mul]; exact Nat.mul_le_mul_right _ e
      rw [List.getElem?_append_left (by rw [plsP_len]; omega)]; exact ih e
    · obtain rfl : j = h := by omega
      rw [List.getElem?_append_right (by rw [plsP_len]; omega), plsP_len, Nat.add_sub_cancel_left]
      exact rowP_get _ _ _ _ hi
theorem plsP_mem (a b : Int) (w h : Nat) : ∀ t ∈ plsP a b w h, ∃ i j : Nat, i < w ∧ j < h ∧ t = mkP (a + i) (b + j) := by
  intro t ht
  obtain ⟨k, hk, rfl⟩ := List.getElem_of_mem ht
  rw [plsP_len] at hk
  have hw : 0 < w := by
    rcases Nat.eq_zero_or_pos w with e | e
    · subst e; simp at hk
    · exact e
  have h1 : k / w < h := Nat.div_lt_of_lt_mul (by rw [Nat.mul_comm]; exact hk)
  have h2 : k % w < w := Nat.mod_lt _ hw
  have h3 := plsP_get a b w h (k / w) (k % w) h1 h2
  have e : k / w * w + k % w = k := by rw [Nat.mul_comm]; exact Nat.div_add_mod k w
  rw [e] at h3
  refine ⟨k % w, k / w, h2, h1, ?_⟩
  rw [List.getElem?_eq_getElem (by rw [plsP_len]; exact hk)] at h3
  exact Option.some.inj h3
/-- A cut of what was laid place by place is what was laid at that place. -/
theorem cut_lay (g : PT → List Int) (C : Nat) (a b : Int) (w h : Nat) (hg : ∀ x ∈ plsP a b w h, (g x).length = C) (u v : Int) (hu : a ≤ u ∧ u < a + w) (hv : b ≤ v ∧ v < b + h) : cutP ((plsP a b w h).flatMap g) a b w C u v = g (mkP u v) := by
  obtain ⟨i, hi⟩ : ∃ i : Nat, u = a + i := ⟨(u - a).toNat, by omega⟩
  obtain ⟨j, hj⟩ : ∃ j : Nat, v = b + j := ⟨(v - b).toNat, by omega⟩
  subst hi hj
  have hi' : i < w := by omega
  have hj' : j < h := by omega
  have hlt : j * w + i < h * w := by
    have : (j + 1) * w ≤ h * w := Nat.mul_le_mul_right _ hj'
    rw [Nat.succ_mul] at this; omega
  have hk := plsP_get a b w h j i hj' hi'
  rw [List.getElem?_eq_getElem (by rw [plsP_len]; exact hlt)] at hk
  have hk2 := Option.some.inj hk
  unfold cutP
  have e : (((b + (j : Int) - b) * (w : Int) + (a + (i : Int) - a)) * (C : Int)).toNat = (j * w + i) * C := by
    rw [show b + (j : Int) - b = (j : Int) by omega, show a + (i : Int) - a = (i : Int) by omega, ← Int.natCast_mul, ← Int.natCast_add, ← Int.natCast_mul]
    exact Int.toNat_natCast _
  rw [e, flat_cut g C _ hg _ (by rw [plsP_len]; exact hlt), hk2]
theorem flat_congr {α : Type} {g g' : α → List Int} : ∀ {l : List α}, (∀ x ∈ l, g x = g' x) → l.flatMap g = l.flatMap g'
  | [], _ => rfl
  | x :: l, h => by rw [List.flatMap_cons, List.flatMap_cons, h x (by simp), flat_congr (fun y hy => h y (by simp [hy]))]
/-- Three passes, f across, g along, are one. -/
theorem three_one (px : Int → Int → List Int) (C : Nat) (f g : Int → Int) (X0 Y0 : Int) (w1 h1 wd ht : Nat) (hlen : ∀ x y, (px x y).length = C)
    (hX : -2147483648 ≤ X0 ∧ X0 + w1 ≤ 2147483648) (hY : -2147483648 ≤ Y0 ∧ Y0 + h1 ≤ 2147483648) (hwd : (wd : Int) ≤ 2147483648) (hht : (ht : Int) ≤ 2147483648)
    (hf : ∀ x y : Int, 0 ≤ x → x < wd → 0 ≤ y → y < ht → X0 ≤ x + f y ∧ x + f y < X0 + w1)
    (hg : ∀ x y : Int, X0 ≤ x → x < X0 + w1 → 0 ≤ y → y < ht → Y0 ≤ y + g x ∧ y + g x < Y0 + h1) :
    outP (outP ((plsP X0 Y0 w1 h1).flatMap (fun q => px (q.1.1 + f q.1.2) q.1.2)) X0 Y0 w1 C (fun t => (t.1.1, t.1.2 + g t.1.1)) (plsP X0 0 w1 ht)) X0 0 w1 C (fun t => (t.1.1 + f t.1.2, t.1.2)) (plsP 0 0 wd ht) =
      (plsP 0 0 wd ht).flatMap (fun t => px (t.1.1 + f t.1.2 + f (t.1.2 + g (t.1.1 + f t.1.2))) (t.1.2 + g (t.1.1 + f t.1.2))) := by
  have e1 : outP ((plsP X0 Y0 w1 h1).flatMap (fun q => px (q.1.1 + f q.1.2) q.1.2)) X0 Y0 w1 C (fun t => (t.1.1, t.1.2 + g t.1.1)) (plsP X0 0 w1 ht) = (plsP X0 0 w1 ht).flatMap (fun t => px (t.1.1 + f (t.1.2 + g t.1.1)) (t.1.2 + g t.1.1)) := by
    unfold outP
    refine flat_congr fun t ht' => ?_
    obtain ⟨i, j, hi, hj, rfl⟩ := plsP_mem _ _ _ _ t ht'
    have em : (mkP (X0 + i) (0 + j)).1 = (X0 + (i : Int), 0 + (j : Int)) := mkP_eq ⟨⟨by omega, by omega⟩, by omega, by omega⟩
    simp only [em]
    have hb := hg (X0 + i) (0 + j) (by omega) (by omega) (by omega) (by omega)
    rw [cut_lay _ C X0 Y0 w1 h1 (fun x _ => hlen _ _) _ _ ⟨by omega, by omega⟩ hb]
    rw [mkP_eq ⟨⟨by omega, by omega⟩, by omega, by omega⟩]
  rw [e1]
  unfold outP
  refine flat_congr fun t ht' => ?_
  obtain ⟨i, j, hi, hj, rfl⟩ := plsP_mem _ _ _ _ t ht'
  have em : (mkP (0 + i) (0 + j)).1 = (0 + (i : Int), 0 + (j : Int)) := mkP_eq ⟨⟨by omega, by omega⟩, by omega, by omega⟩
  simp only [em]
  have hb := hf (0 + i) (0 + j) (by omega) (by omega) (by omega) (by omega)
  rw [cut_lay _ C X0 0 w1 ht (fun x _ => hlen _ _) _ _ hb ⟨by omega, by omega⟩]
  rw [mkP_eq ⟨⟨by omega, by omega⟩, by omega, by omega⟩]
/-- Places one by one, as rows of a number of columns. -/
theorem plsP_range (w h : Nat) (hw : 0 < w) (g : PT → List Int) : (plsP 0 0 w h).flatMap g = (List.range (w * h)).flatMap (fun i => g (mkP (((i % w : Nat) : Int)) (((i / w : Nat) : Int)))) := by
  have e : plsP 0 0 w h = (List.range (w * h)).map (fun i => mkP (((i % w : Nat) : Int)) (((i / w : Nat) : Int))) := by
    apply List.ext_getElem?
    intro k
    by_cases hk : k < h * w
    · have h1 : k / w < h := Nat.div_lt_of_lt_mul (by rw [Nat.mul_comm]; exact hk)
      have h3 := plsP_get 0 0 w h (k / w) (k % w) h1 (Nat.mod_lt _ hw)
      have e2 : k / w * w + k % w = k := by rw [Nat.mul_comm]; exact Nat.div_add_mod k w
      rw [e2] at h3
      rw [h3, List.getElem?_map, List.getElem?_range (by rw [Nat.mul_comm]; exact hk)]
      simp
    · rw [List.getElem?_eq_none (by rw [plsP_len]; omega), List.getElem?_eq_none (by simp [Nat.mul_comm w h]; omega)]
  rw [e, List.flatMap_map]
--END
end Go.Proofs.Ytpcjoalbhicccaa
