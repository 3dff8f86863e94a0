/- Which columns: the plain law. -/
import Derived.Test.YtjdboclibinjoaaFt12
set_option linter.unusedVariables false
namespace Go.Proofs.Ytjdboclibinjoaa
theorem memR_one (x y j : Int) : MemR [(x, y)] j ↔ x ≤ j ∧ j < y := by
  rw [memR_cons]
  constructor
  · rintro (h | h)
    · exact h
    · exact absurd h (memR_nil j)
  · exact .inl
theorem mem_roundL (lay : Int → Int → Int → Int → Rn) (f l a b n : Int) (N : Nat) (j : Int) :
    MemR (roundL lay f l a b n N) j ↔ ∃ t : Nat, t < N ∧ (lay n (f + t) (if t = 0 then a else 0) (if f + t = l then b else n - 1)).1 ≤ j ∧ j < (lay n (f + t) (if t = 0 then a else 0) (if f + t = l then b else n - 1)).2 := by
  unfold roundL MemR
  constructor
  · rintro ⟨r, hr, h⟩
    obtain ⟨t, ht, rfl⟩ := List.mem_map.1 hr
    exact ⟨t, by simpa using ht, h⟩
  · rintro ⟨t, ht, h⟩
    exact ⟨_, List.mem_map.2 ⟨t, by simpa using ht, rfl⟩, h⟩
/-- A column is a time round and a thing there. -/
theorem split_col {n i : Int} (hn : 1 ≤ n) : i = n * (i / n) + i % n ∧ 0 ≤ i % n ∧ i % n < n :=
  ⟨(Int.mul_ediv_add_emod i n).symm, Int.emod_nonneg i (by omega), Int.emod_lt_of_pos i (by omega)⟩
theorem col_of {n k r : Int} (hn : 1 ≤ n) (h0 : 0 ≤ r) (h1 : r < n) : (n * k + r) / n = k ∧ (n * k + r) % n = r := by
  have hn0 : n ≠ 0 := by omega
  constructor
  · rw [Int.add_comm, Int.add_mul_ediv_left _ _ hn0, Int.ediv_eq_zero_of_lt h0 h1]; omega
  · rw [Int.add_comm, Int.add_mul_emod_self_left, Int.emod_eq_of_lt h0 h1]
theorem col_le {n k k' r r' : Int} (hn : 1 ≤ n) (h0 : 0 ≤ r) (h1 : r < n) (h0' : 0 ≤ r') (h1' : r' < n) : n * k + r ≤ n * k' + r' ↔ k < k' ∨ (k = k' ∧ r ≤ r') := by
  constructor
  · intro h
    rcases Int.lt_trichotomy k k' with g | g | g
    · exact .inl g
    · subst g; exact .inr ⟨rfl, by omega⟩
    · exfalso
      have : n * (k' + 1) ≤ n * k := Int.mul_le_mul_of_nonneg_left (by omega) (by omega)
      rw [Int.mul_add] at this
      omega
  · rintro (g | ⟨g, g2⟩)
    · have : n * (k + 1) ≤ n * k' := Int.mul_le_mul_of_nonneg_left (by omega) (by omega)
      rw [Int.mul_add] at this
      omega
    · subst g; omega
/-- Times round from one column to another one, and things there. -/
theorem blocks_law {n lo hi : Int} (hn : 1 ≤ n) (hlh : lo ≤ hi) (P : Int → Int → Prop) :
    (∃ i, lo ≤ i ∧ i ≤ hi ∧ P (i / n) (i % n)) ↔ ∃ t : Nat, t < (hi / n - lo / n + 1).toNat ∧ ∃ r, (if t = 0 then lo % n else 0) ≤ r ∧ r ≤ (if lo / n + t = hi / n then hi % n else n - 1) ∧ P (lo / n + t) r := by
  obtain ⟨l1, l2, l3⟩ := split_col (n := n) (i := lo) hn
  obtain ⟨u1, u2, u3⟩ := split_col (n := n) (i := hi) hn
  constructor
  · rintro ⟨i, h1, h2, hP⟩
    obtain ⟨i1, i2, i3⟩ := split_col (n := n) (i := i) hn
    rw [l1, i1] at h1
    rw [u1, i1] at h2
    rw [col_le hn l2 l3 i2 i3] at h1
    rw [col_le hn i2 i3 u2 u3] at h2
    refine ⟨(i / n - lo / n).toNat, by omega, i % n, ?_, ?_, ?_⟩
    · split <;> omega
    · split <;> omega
    · rw [show lo / n + ((i / n - lo / n).toNat : Int) = i / n by omega]; exact hP
  · rintro ⟨t, ht, r, h1, h2, hP⟩
    have hr0 : 0 ≤ r := by split at h1 <;> omega
    have hr1 : r < n := by split at h2 <;> omega
    obtain ⟨e1, e2⟩ := col_of (k := lo / n + t) hn hr0 hr1
    refine ⟨n * (lo / n + t) + r, ?_, ?_, ?_⟩
    · have := (col_le (n := n) (k := lo / n) (k' := lo / n + t) hn l2 l3 hr0 hr1).2 (by split at h1 <;> omega)
      omega
    · have := (col_le (n := n) (k := lo / n + t) (k' := hi / n) hn hr0 hr1 u2 u3).2 (by split at h2 <;> omega)
      omega
    · rw [e1, e2]; exact hP
theorem mem_round {lay : Int → Int → Int → Int → Rn} {n lo hi t : Int} (hn : 1 ≤ n) (hlh : lo ≤ hi) (hc : ¬ t * n - 1 ≤ hi - lo) (f : Int → Int → Int)
    (hlay : ∀ k a b j, (lay n k a b).1 ≤ j ∧ j < (lay n k a b).2 ↔ ∃ r, a ≤ r ∧ r ≤ b ∧ f k r = j) (j : Int) :
    MemR (roundF lay t lo hi n) j ↔ ∃ i, lo ≤ i ∧ i ≤ hi ∧ f (i / n) (i % n) = j := by
  unfold roundF
  rw [if_neg hc, mem_roundL, blocks_law hn hlh (fun k r => f k r = j)]
  constructor
  · rintro ⟨t, ht, h⟩
    obtain ⟨r, h1, h2, h3⟩ := (hlay _ _ _ _).1 h
    exact ⟨t, ht, r, h1, h2, h3⟩
  · rintro ⟨t, ht, r, h1, h2, h3⟩
    exact ⟨t, ht, (hlay _ _ _ _).2 ⟨r, h1, h2, h3⟩⟩
/-- Where a column is, by modes. -/
def colAt (m n i : Int) : Option Int :=
  if m = 0 then (if 0 ≤ i ∧ i < n then some i else none) else if m = 1 then some (max 0 (min i (n - 1)))
  else if m = 2 then some (i % n) else some (if (i / n) % 2 = 0 then i % n else n - 1 - i % n)
theorem hit_again {n lo hi j : Int} (hn : 1 ≤ n) (hc : n - 1 ≤ hi - lo) (h0 : 0 ≤ j) (h1 : j < n) : ∃ i, lo ≤ i ∧ i ≤ hi ∧ i % n = j := by
  obtain ⟨l1, l2, l3⟩ := split_col (n := n) (i := j - lo) hn
  refine ⟨lo + (j - lo) % n, by omega, by omega, ?_⟩
  rw [Int.add_emod_emod, show lo + (j - lo) = j by omega, Int.emod_eq_of_lt h0 h1]
theorem cols_law {m lo hi n : Int} (hm : 0 ≤ m ∧ m ≤ 3) (hn : 1 ≤ n) (hlh : lo ≤ hi) (j : Int) : MemR (colsF m lo hi n) j ↔ ∃ i, lo ≤ i ∧ i ≤ hi ∧ colAt m n i = some j := by
  have hcase : m = 0 ∨ m = 1 ∨ m = 2 ∨ m = 3 := by omega
  rcases hcase with rfl | rfl | rfl | rfl
  · rw [show colsF 0 lo hi n = [(max lo 0, min hi (n - 1) + 1)] from rfl, memR_one]
    simp only [colAt, if_pos]
    constructor
    · intro h
      exact ⟨j, by omega, by omega, by rw [if_pos (by omega)]⟩
    · rintro ⟨i, h1, h2, h3⟩
      split at h3
      · injection h3 with h3; omega
      · cases h3
  · rw [show colsF 1 lo hi n = [(max 0 (min lo (n - 1)), max 0 (min hi (n - 1)) + 1)] from rfl, memR_one]
    simp only [colAt, if_neg (show ¬ (1 : Int) = 0 by omega), if_pos]
    constructor
    · intro h
      refine ⟨max lo (min hi j), by omega, by omega, ?_⟩
      congr 1
      omega
    · rintro ⟨i, h1, h2, h3⟩
      injection h3 with h3
      omega
  · rw [show colsF 2 lo hi n = roundF layA 1 lo hi n from rfl]
    simp only [colAt, if_neg (show ¬ (2 : Int) = 0 by omega), if_neg (show ¬ (2 : Int) = 1 by omega), if_pos]
    by_cases hc : 1 * n - 1 ≤ hi - lo
    · unfold roundF
      rw [if_pos hc, memR_one]
      constructor
      · intro h
        obtain ⟨i, h1, h2, h3⟩ := hit_again (lo := lo) (hi := hi) hn (by omega) h.1 h.2
        exact ⟨i, h1, h2, by rw [h3]⟩
      · rintro ⟨i, h1, h2, h3⟩
        injection h3 with h3
        have := split_col (n := n) (i := i) hn
        omega
    · rw [mem_round hn hlh hc (fun k r => r) (by
        intro k a b j
        simp only [layA]
        constructor
        · intro h; exact ⟨j, by omega, by omega, rfl⟩
        · rintro ⟨r, h1, h2, rfl⟩; omega)]
      constructor
      · rintro ⟨i, h1, h2, h3⟩; exact ⟨i, h1, h2, by rw [h3]⟩
      · rintro ⟨i, h1, h2, h3⟩; exact ⟨i, h1, h2, by injection h3⟩
  · rw [show colsF 3 lo hi n = roundF layB 2 lo hi n from rfl]
    simp only [colAt, if_neg (show ¬ (3 : Int) = 0 by omega), if_neg (show ¬ (3 : Int) = 1 by omega), if_neg (show ¬ (3 : Int) = 2 by omega)]
    by_cases hc : 2 * n - 1 ≤ hi - lo
    · unfold roundF
      rw [if_pos hc, memR_one]
      constructor
      · intro h
        obtain ⟨i, h1, h2, h3⟩ := hit_again (n := 2 * n) (lo := lo) (hi := hi) (by omega) (by omega) h.1 (by omega)
        obtain ⟨s1, s2, s3⟩ := split_col (n := 2 * n) (i := i) (by omega)
        have e : i = n * (2 * (i / (2 * n))) + j := by
          rw [h3] at s1
          rw [← Int.mul_assoc, Int.mul_comm n 2]; exact s1
        obtain ⟨e1, e2⟩ := col_of (n := n) (k := 2 * (i / (2 * n))) hn h.1 h.2
        rw [← e] at e1 e2
        exact ⟨i, h1, h2, by rw [e1, e2, if_pos (by omega)]⟩
      · rintro ⟨i, h1, h2, h3⟩
        injection h3 with h3
        have := split_col (n := n) (i := i) hn
        split at h3 <;> omega
    · rw [mem_round hn hlh hc (fun k r => if k % 2 = 0 then r else n - 1 - r) (by
        intro k a b j
        unfold layB
        by_cases hk : k % 2 = 0
        · simp only [if_pos hk]
          constructor
          · intro h; exact ⟨j, by omega, by omega, rfl⟩
          · rintro ⟨r, h1, h2, rfl⟩; omega
        · simp only [if_neg hk]
          constructor
          · intro h; exact ⟨n - 1 - j, by omega, by omega, by omega⟩
          · rintro ⟨r, h1, h2, rfl⟩; omega)]
      constructor
      · rintro ⟨i, h1, h2, h3⟩; exact ⟨i, h1, h2, by rw [h3]⟩
      · rintro ⟨i, h1, h2, h3⟩; exact ⟨i, h1, h2, by injection h3⟩
end Go.Proofs.Ytjdboclibinjoaa
