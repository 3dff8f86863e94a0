/- Plain mathematics of digits of base 32768: values, normal forms, sums, rests, products, trial digits. No program in sight. -/
import Derived.Test.YtencbfmcmpmdnaaGreatDoorBase
set_option linter.unusedVariables false
namespace Go.Proofs.YtencbfmcmpmdnaaGreatDoor
/-- The value of digits, the lowest one first. -/
def vd : List Int → Int
  | [] => 0
  | d :: l => d + 32768 * vd l
def okd (l : List Int) : Prop := ∀ d ∈ l, 0 ≤ d ∧ d ≤ 32767
/-- Digits without noughts at the end. -/
def Norm (l : List Int) : Prop := okd l ∧ ∀ d, l.getLast? = some d → d ≠ 0
/-- 32768 to the power of n. -/
def Bp : Nat → Int
  | 0 => 1
  | n + 1 => 32768 * Bp n
theorem Bp_pos (n : Nat) : 1 ≤ Bp n := by
  induction n with
  | zero => simp [Bp]
  | succ n ih => rw [Bp]; omega
theorem Bp_add (m n : Nat) : Bp (m + n) = Bp m * Bp n := by
  induction m with
  | zero => simp [Bp]
  | succ m ih => rw [Nat.succ_add, Bp, Bp, ih, Int.mul_assoc]
theorem Bp_mono {m n : Nat} (h : m ≤ n) : Bp m ≤ Bp n := by
  obtain ⟨k, rfl⟩ := Nat.exists_eq_add_of_le h
  rw [Bp_add]
  have h1 := Bp_pos m
  have h2 := Bp_pos k
  have := Int.mul_le_mul_of_nonneg_left h2 (by omega : 0 ≤ Bp m)
  omega
theorem okd_nil : okd [] := fun d h => by cases h
theorem okd_cons {d : Int} {l : List Int} : okd (d :: l) ↔ (0 ≤ d ∧ d ≤ 32767) ∧ okd l := by simp [okd]
theorem okd_append {l m : List Int} : okd (l ++ m) ↔ okd l ∧ okd m := by
  simp only [okd, List.mem_append]
  exact ⟨fun h => ⟨fun d hd => h d (.inl hd), fun d hd => h d (.inr hd)⟩, fun h d hd => hd.elim (h.1 d) (h.2 d)⟩
theorem okd_take {l : List Int} (h : okd l) (n : Nat) : okd (l.take n) := fun d hd => h d (List.mem_of_mem_take hd)
theorem okd_drop {l : List Int} (h : okd l) (n : Nat) : okd (l.drop n) := fun d hd => h d (List.mem_of_mem_drop hd)
theorem vd_nonneg {l : List Int} (h : okd l) : 0 ≤ vd l := by
  induction l with
  | nil => simp [vd]
  | cons d l ih => rw [okd_cons] at h; rw [vd]; have := ih h.2; omega
theorem vd_lt {l : List Int} (h : okd l) : vd l < Bp l.length := by
  induction l with
  | nil => simp [vd, Bp]
  | cons d l ih => rw [okd_cons] at h; rw [vd, List.length_cons, Bp]; have := ih h.2; omega
theorem vd_append (l m : List Int) : vd (l ++ m) = vd l + Bp l.length * vd m := by
  induction l with
  | nil => simp [vd, Bp]
  | cons d l ih => rw [List.cons_append, vd, vd, ih, List.length_cons, Bp, Int.mul_add, Int.mul_assoc]; omega
theorem vd_snoc (l : List Int) (d : Int) : vd (l ++ [d]) = vd l + Bp l.length * d := by rw [vd_append]; simp [vd]
theorem vd_zeros (n : Nat) : vd (List.replicate n 0) = 0 := by
  induction n with
  | zero => rfl
  | succ n ih => rw [List.replicate_succ, vd, ih]; rfl
/-- The digits without the noughts at the end. -/
def tr (l : List Int) : List Int := (l.reverse.dropWhile (· == 0)).reverse
theorem tr_snoc (l : List Int) (d : Int) : tr (l ++ [d]) = if d = 0 then tr l else l ++ [d] := by
  unfold tr
  rw [List.reverse_append]
  simp only [List.reverse_cons, List.reverse_nil, List.nil_append, List.cons_append, List.dropWhile_cons]
  by_cases h : d = 0
  · simp [h]
  · simp [h]
theorem list_snoc {α : Type} (l : List α) (h : l ≠ []) : ∃ m d, l = m ++ [d] := ⟨l.dropLast, l.getLast h, (List.dropLast_concat_getLast h).symm⟩
theorem snoc_ind {α : Type} {P : List α → Prop} (h0 : P []) (h1 : ∀ l d, P l → P (l ++ [d])) : ∀ (n : Nat) (l : List α), l.length = n → P l := by
  intro n
  induction n with
  | zero => intro l hl; rw [List.eq_nil_of_length_eq_zero hl]; exact h0
  | succ n ih =>
    intro l hl
    obtain ⟨m, d, rfl⟩ := list_snoc l (by rintro rfl; simp at hl)
    exact h1 m d (ih m (by simpa using hl))
theorem tr_vd (l : List Int) : vd (tr l) = vd l := by
  refine snoc_ind (P := fun l => vd (tr l) = vd l) rfl (fun l d ih => ?_) _ l rfl
  rw [tr_snoc]
  split
  · rename_i h; subst h; rw [vd_snoc, ih]; omega
  · rfl
theorem tr_le (l : List Int) : (tr l).length ≤ l.length := by
  refine snoc_ind (P := fun l => (tr l).length ≤ l.length) (by simp [tr]) (fun l d ih => ?_) _ l rfl
  rw [tr_snoc]
  split
  · simp; omega
  · simp
theorem tr_take (l : List Int) : tr l = l.take (tr l).length := by
  refine snoc_ind (P := fun l => tr l = l.take (tr l).length) (by simp [tr]) (fun l d ih => ?_) _ l rfl
  rw [tr_snoc]
  split
  · rw [List.take_append_of_le_length (tr_le l)]; exact ih
  · rw [List.take_length]
theorem tr_norm {l : List Int} (h : okd l) : Norm (tr l) := by
  refine ⟨by rw [tr_take]; exact okd_take h _, ?_⟩
  refine snoc_ind (P := fun l => ∀ d, (tr l).getLast? = some d → d ≠ 0) (by simp [tr]) (fun l d ih => ?_) _ l rfl
  rw [tr_snoc]
  split
  · exact ih
  · rename_i hd; intro e he; simp at he; subst he; exact hd
/-- Trimming by one: what the loop does. -/
theorem tr_step (l : List Int) (k : Nat) (hk : k < l.length) : tr (l.take (k + 1)) = if l[k] = 0 then tr (l.take k) else l.take (k + 1) := by
  rw [List.take_succ_eq_append_getElem hk, tr_snoc]
theorem norm_nil : Norm [] := ⟨okd_nil, by simp⟩
theorem norm_pos {l : List Int} (h : Norm l) (hl : l ≠ []) : Bp (l.length - 1) ≤ vd l := by
  obtain ⟨m, d, rfl⟩ := list_snoc l hl
  have hd := h.2 d (by simp)
  have hok := okd_append.1 h.1
  have h1 := vd_nonneg hok.1
  have h2 := hok.2 d (by simp)
  rw [vd_snoc]
  simp only [List.length_append, List.length_cons, List.length_nil, Nat.zero_add, Nat.add_sub_cancel]
  have h3 := Bp_pos m.length
  have := Int.mul_le_mul_of_nonneg_left (show 1 ≤ d by omega) (by omega : 0 ≤ Bp m.length)
  omega
theorem norm_len {l : List Int} (h : Norm l) {n : Nat} (hv : vd l < Bp n) : l.length ≤ n := by
  by_cases hl : l = []
  · subst hl; simp
  · have h1 := norm_pos h hl
    rcases Nat.lt_or_ge n l.length with h2 | h2
    · exfalso
      have := Bp_mono (show n ≤ l.length - 1 by omega)
      omega
    · exact h2
theorem norm_zero {l : List Int} (h : Norm l) : l = [] ↔ vd l = 0 := by
  constructor
  · rintro rfl; rfl
  · intro hv
    by_cases hl : l = []
    · exact hl
    · have := norm_pos h hl; have := Bp_pos (l.length - 1); omega
theorem tr_self {l : List Int} (h : Norm l) : tr l = l := by
  by_cases hl : l = []
  · subst hl; rfl
  · obtain ⟨m, d, rfl⟩ := list_snoc l hl
    rw [tr_snoc, if_neg (h.2 d (by simp))]
/-- The i-th digit. -/
def dgt (l : List Int) (i : Nat) : Int := l[i]?.getD 0
theorem dgt_ok {l : List Int} (h : okd l) (i : Nat) : 0 ≤ dgt l i ∧ dgt l i ≤ 32767 := by
  unfold dgt
  by_cases hi : i < l.length
  · rw [List.getElem?_eq_getElem hi]; exact h _ (List.getElem_mem _)
  · rw [List.getElem?_eq_none (by omega)]; simp
theorem vd_take_succ (l : List Int) (k : Nat) : vd (l.take (k + 1)) = vd (l.take k) + Bp k * dgt l k := by
  by_cases hk : k < l.length
  · rw [List.take_succ_eq_append_getElem hk, vd_snoc]
    simp only [List.length_take, dgt, List.getElem?_eq_getElem hk, Option.getD_some]
    rw [Nat.min_eq_left (by omega)]
  · rw [List.take_of_length_le (by omega), List.take_of_length_le (by omega)]
    simp [dgt, List.getElem?_eq_none (by omega : l.length ≤ k)]
theorem vd_drop (l : List Int) (k : Nat) : vd (l.drop k) = dgt l k + 32768 * vd (l.drop (k + 1)) := by
  by_cases hk : k < l.length
  · rw [List.drop_eq_getElem_cons hk, vd]; simp [dgt, List.getElem?_eq_getElem hk]
  · rw [List.drop_eq_nil_of_le (by omega), List.drop_eq_nil_of_le (by omega)]
    simp [dgt, List.getElem?_eq_none (by omega : l.length ≤ k), vd]
theorem vd_split (l : List Int) (k : Nat) (hk : k ≤ l.length) : vd l = vd (l.take k) + Bp k * vd (l.drop k) := by
  conv => lhs; rw [← List.take_append_drop k l]
  rw [vd_append]; simp [Nat.min_eq_left hk]
theorem vd_set (l : List Int) (k : Nat) (x : Int) (hk : k < l.length) : vd (l.set k x) = vd l + Bp k * (x - dgt l k) := by
  induction l generalizing k with
  | nil => simp at hk
  | cons d l ih =>
    cases k with
    | zero => simp [vd, Bp, dgt]; omega
    | succ k =>
      simp only [List.set_cons_succ, vd, Bp]
      rw [ih k (by simpa using hk)]
      have : dgt (d :: l) (k + 1) = dgt l k := by simp [dgt]
      rw [this, Int.mul_add, Int.mul_assoc]; omega
theorem okd_set {l : List Int} (h : okd l) (k : Nat) (x : Int) (hx : 0 ≤ x ∧ x ≤ 32767) : okd (l.set k x) := by
  intro d hd
  rcases List.mem_or_eq_of_mem_set hd with h1 | h1
  · exact h d h1
  · subst h1; exact hx
theorem dgt_set (l : List Int) (k j : Nat) (x : Int) (hk : k < l.length) : dgt (l.set k x) j = if j = k then x else dgt l j := by
  unfold dgt
  rw [List.getElem?_set]
  by_cases h : k = j
  · subst h; simp [hk]
  · rw [if_neg h, if_neg (fun e => h e.symm)]
theorem Bp4 : Bp 4 = 1152921504606846976 := by decide
theorem Bp5 : Bp 5 = 37778931862957161709568 := by decide
theorem Bp20 : Bp 20 = 2037035976334486086268445688409378161051468393665936250636140449354381299763336706183397376 := by decide
theorem Bp40 : Bp 40 = 4149515568880992958512407863691161151012446232242436899995657329690652811412908146399707048947103794288197886611300789182395151075411775307886874834113963687061181803401509523685376 := by decide
theorem Bp39s : Bp 40 = 32768 * Bp 39 := rfl
theorem Bp38s : Bp 39 = 32768 * Bp 38 := rfl
theorem Bp1s (n : Nat) : Bp (n + 1) = 32768 * Bp n := rfl
theorem Bp0s : Bp 0 = 1 := rfl
attribute [irreducible] Bp
end Go.Proofs.YtencbfmcmpmdnaaGreatDoor
