/- Heaps, and the things in them by when they were touched: plain. -/
import Derived.Test.YtahiaeaobbofbaaGreatBase
set_option linter.unusedVariables false
namespace Go.Proofs.YtahiaeaobbofbaaGreat
section
variable {α : Type}
def sw (a : Nat → α) (i j : Nat) : Nat → α := fun x => if x = i then a j else if x = j then a i else a x
/-- A heap of n, by the numbers k. -/
def Hp (k : α → Int) (a : Nat → α) (n : Nat) : Prop := ∀ j, 0 < j → j < n → k (a ((j - 1) / 2)) ≤ k (a j)
/-- A heap but for j, which may be less than its parent. -/
def Up (k : α → Int) (a : Nat → α) (n j : Nat) : Prop := j < n ∧ (∀ i, 0 < i → i < n → i ≠ j → k (a ((i - 1) / 2)) ≤ k (a i)) ∧ (0 < j → ∀ i, 0 < i → i < n → (i - 1) / 2 = j → k (a ((j - 1) / 2)) ≤ k (a i))
/-- A heap but for i, which may be greater than its children, and, if it was not moved, less than its parent. -/
def Dn (k : α → Int) (mv : Bool) (a : Nat → α) (n i : Nat) : Prop := i < n ∧ (∀ j, 0 < j → j < n → (j - 1) / 2 ≠ i → (j = i → mv = true) → k (a ((j - 1) / 2)) ≤ k (a j)) ∧ (0 < i → ∀ j, 0 < j → j < n → (j - 1) / 2 = i → k (a ((i - 1) / 2)) ≤ k (a j))
theorem up_step {k : α → Int} {a : Nat → α} {n j : Nat} (h : Up k a n j) (h0 : 0 < j) (hl : k (a j) < k (a ((j - 1) / 2))) : Up k (sw a ((j - 1) / 2) j) n ((j - 1) / 2) := by
  obtain ⟨h1, h2, h3⟩ := h
  have hp : (j - 1) / 2 < j := by omega
  refine ⟨by omega, ?_, ?_⟩
  · intro i i0 i1 hne
    by_cases e : i = j
    · subst e
      have e1 : sw a ((i - 1) / 2) i ((i - 1) / 2) = a i := by simp [sw]
      have e2 : sw a ((i - 1) / 2) i i = a ((i - 1) / 2) := by unfold sw; rw [if_neg (by omega), if_pos rfl]
      rw [e1, e2]; omega
    · have e2 : sw a ((j - 1) / 2) j i = a i := by unfold sw; rw [if_neg hne, if_neg e]
      rw [e2]
      by_cases e3 : (i - 1) / 2 = (j - 1) / 2
      · have e4 : sw a ((j - 1) / 2) j ((i - 1) / 2) = a j := by unfold sw; rw [if_pos e3]
        rw [e4]
        have := h2 i i0 i1 e
        rw [e3] at this; omega
      · by_cases e5 : (i - 1) / 2 = j
        · have e4 : sw a ((j - 1) / 2) j ((i - 1) / 2) = a ((j - 1) / 2) := by unfold sw; rw [if_neg e3, if_pos e5]
          rw [e4]
          exact h3 h0 i i0 i1 e5
        · have e4 : sw a ((j - 1) / 2) j ((i - 1) / 2) = a ((i - 1) / 2) := by unfold sw; rw [if_neg e3, if_neg e5]
          rw [e4]
          exact h2 i i0 i1 e
  · intro hp0 i i0 i1 hi
    have e4 : sw a ((j - 1) / 2) j (((j - 1) / 2 - 1) / 2) = a (((j - 1) / 2 - 1) / 2) := by unfold sw; rw [if_neg (by omega), if_neg (by omega)]
    rw [e4]
    have h5 := h2 ((j - 1) / 2) hp0 (by omega) (by omega)
    by_cases e : i = j
    · subst e
      have e2 : sw a ((i - 1) / 2) i i = a ((i - 1) / 2) := by unfold sw; rw [if_neg (by omega), if_pos rfl]
      rw [e2]; exact h5
    · have e2 : sw a ((j - 1) / 2) j i = a i := by unfold sw; rw [if_neg (by omega), if_neg e]
      rw [e2]
      have := h2 i i0 i1 e
      rw [hi] at this; omega
theorem up_end {k : α → Int} {a : Nat → α} {n j : Nat} (h : Up k a n j) (hl : j = 0 ∨ k (a ((j - 1) / 2)) ≤ k (a j)) : Hp k a n := by
  intro i i0 i1
  by_cases e : i = j
  · subst e; rcases hl with hl | hl
    · omega
    · exact hl
  · exact h.2.1 i i0 i1 e
theorem dn_step {k : α → Int} {mv : Bool} {a : Nat → α} {n i j : Nat} (h : Dn k mv a n i) (hj : j < n) (hc : j = 2 * i + 1 ∨ j = 2 * i + 2)
    (hmin : ∀ c, c < n → (c = 2 * i + 1 ∨ c = 2 * i + 2) → k (a j) ≤ k (a c)) (hl : k (a j) < k (a i)) : Dn k true (sw a i j) n j := by
  obtain ⟨h1, h2, h3⟩ := h
  have hp : (j - 1) / 2 = i := by omega
  have hlt : i < j := by omega
  refine ⟨hj, ?_, ?_⟩
  · intro c c0 c1 hne _
    by_cases e : c = j
    · subst e
      have e1 : sw a i c ((c - 1) / 2) = a c := by unfold sw; rw [if_pos hp]
      have e2 : sw a i c c = a i := by unfold sw; rw [if_neg (by omega), if_pos rfl]
      rw [e1, e2]; omega
    · by_cases e1 : c = i
      · subst e1
        have e2 : sw a c j c = a j := by unfold sw; rw [if_pos rfl]
        have e3 : sw a c j ((c - 1) / 2) = a ((c - 1) / 2) := by unfold sw; rw [if_neg (by omega), if_neg (by omega)]
        rw [e2, e3]
        exact h3 c0 j (by omega) hj hp
      · have e2 : sw a i j c = a c := by unfold sw; rw [if_neg e1, if_neg e]
        rw [e2]
        by_cases e3 : (c - 1) / 2 = i
        · have e4 : sw a i j ((c - 1) / 2) = a j := by unfold sw; rw [if_pos e3]
          rw [e4]
          exact hmin c c1 (by omega)
        · have e4 : sw a i j ((c - 1) / 2) = a ((c - 1) / 2) := by unfold sw; rw [if_neg e3, if_neg hne]
          rw [e4]
          exact h2 c c0 c1 e3 (fun e5 => absurd e5 e1)
  · intro _ c c0 c1 hc2
    have e1 : sw a i j ((j - 1) / 2) = a j := by unfold sw; rw [if_pos hp]
    have e2 : sw a i j c = a c := by unfold sw; rw [if_neg (by omega), if_neg (by omega)]
    rw [e1, e2]
    have := h2 c c0 c1 (by omega) (fun e5 => by omega)
    rw [hc2] at this; exact this
theorem dn_end {k : α → Int} {mv : Bool} {a : Nat → α} {n i : Nat} (h : Dn k mv a n i) (hl : ∀ c, c < n → (c = 2 * i + 1 ∨ c = 2 * i + 2) → k (a i) ≤ k (a c)) : (mv = true → Hp k a n) ∧ Up k a n i := by
  obtain ⟨h1, h2, h3⟩ := h
  have hx : ∀ j, 0 < j → j < n → (j = i → mv = true) → k (a ((j - 1) / 2)) ≤ k (a j) := by
    intro j j0 j1 hm
    by_cases e : (j - 1) / 2 = i
    · rw [e]; exact hl j j1 (by omega)
    · exact h2 j j0 j1 e hm
  exact ⟨fun hm j j0 j1 => hx j j0 j1 (fun _ => hm), h1, fun j j0 j1 hne => hx j j0 j1 (fun e => absurd e hne), h3⟩
/-- Everything is a heap but for what stands at i. -/
theorem dn_start {k : α → Int} {a b : Nat → α} {n m i : Nat} (h : Hp k a n) (hm : m ≤ n) (hi : i < m) (hab : ∀ j, j < m → j ≠ i → b j = a j) : Dn k false b m i := by
  refine ⟨hi, ?_, ?_⟩
  · intro j j0 j1 hp hji
    have hne : j ≠ i := fun e => by cases hji e
    rw [hab j j1 hne, hab ((j - 1) / 2) (by omega) hp]
    exact h j j0 (by omega)
  · intro i0 j j0 j1 hp
    rw [hab j j1 (by omega), hab ((i - 1) / 2) (by omega) (by omega)]
    have h1 := h j j0 (by omega)
    have h2 := h i i0 (by omega)
    rw [hp] at h1; omega
theorem up_start {k : α → Int} {a b : Nat → α} {n : Nat} (h : Hp k a n) (hab : ∀ j, j < n → b j = a j) : Up k b (n + 1) n := by
  refine ⟨by omega, ?_, ?_⟩
  · intro i i0 i1 hne
    rw [hab i (by omega), hab ((i - 1) / 2) (by omega)]
    exact h i i0 (by omega)
  · intro _ i i0 i1 hp; omega
theorem hp_less {k : α → Int} {a : Nat → α} {n m : Nat} (h : Hp k a n) (hm : m ≤ n) : Hp k a m := fun j j0 j1 => h j j0 (by omega)
theorem hp_root {k : α → Int} {a : Nat → α} {n : Nat} (h : Hp k a n) : ∀ j, j < n → k (a 0) ≤ k (a j) := by
  intro j
  induction j using Nat.strongRecOn with
  | _ j ih =>
    intro hj
    by_cases e : j = 0
    · subst e; omega
    · have h1 := h j (by omega) hj
      have h2 := ih ((j - 1) / 2) (by omega) (by omega)
      omega
/-- What a row of swaps keeps: the same things stand there. -/
def Pm (a b : Nat → α) (n : Nat) : Prop := (∀ j, j < n → ∃ i, i < n ∧ b j = a i) ∧ (∀ i, i < n → ∃ j, j < n ∧ b j = a i) ∧ ((∀ i j, i < n → j < n → a i = a j → i = j) → ∀ i j, i < n → j < n → b i = b j → i = j)
theorem pm_refl (a : Nat → α) (n : Nat) : Pm a a n := ⟨fun j h => ⟨j, h, rfl⟩, fun j h => ⟨j, h, rfl⟩, fun h => h⟩
theorem pm_trans {a b c : Nat → α} {n : Nat} (h : Pm a b n) (g : Pm b c n) : Pm a c n :=
  ⟨fun j hj => by obtain ⟨i, hi, e⟩ := g.1 j hj; obtain ⟨i2, hi2, e2⟩ := h.1 i hi; exact ⟨i2, hi2, e.trans e2⟩,
   fun j hj => by obtain ⟨i, hi, e⟩ := h.2.1 j hj; obtain ⟨i2, hi2, e2⟩ := g.2.1 i hi; exact ⟨i2, hi2, e2.trans e⟩,
   fun hh => g.2.2 (h.2.2 hh)⟩
theorem sw_at (a : Nat → α) (i j : Nat) : sw a i j i = a j ∧ sw a i j j = a i := by
  constructor
  · unfold sw; rw [if_pos rfl]
  · unfold sw
    by_cases e : j = i
    · rw [if_pos e, e]
    · rw [if_neg e, if_pos rfl]
theorem sw_ne (a : Nat → α) {i j x : Nat} (h1 : x ≠ i) (h2 : x ≠ j) : sw a i j x = a x := by unfold sw; rw [if_neg h1, if_neg h2]
theorem pm_sw (a : Nat → α) {i j n : Nat} (hi : i < n) (hj : j < n) : Pm a (sw a i j) n := by
  refine ⟨?_, ?_, ?_⟩
  · intro x hx
    by_cases e1 : x = i
    · exact ⟨j, hj, by rw [e1]; exact (sw_at a i j).1⟩
    · by_cases e2 : x = j
      · exact ⟨i, hi, by rw [e2]; exact (sw_at a i j).2⟩
      · exact ⟨x, hx, sw_ne a e1 e2⟩
  · intro x hx
    by_cases e1 : x = i
    · exact ⟨j, hj, by rw [e1]; exact (sw_at a i j).2⟩
    · by_cases e2 : x = j
      · exact ⟨i, hi, by rw [e2]; exact (sw_at a i j).1⟩
      · exact ⟨x, hx, sw_ne a e1 e2⟩
  · intro hinj x y hx hy e
    have hs : ∀ x, x < n → ∃ x', x' < n ∧ sw a i j x = a x' ∧ x' = (if x = i then j else if x = j then i else x) := by
      intro x hx
      by_cases e1 : x = i
      · exact ⟨j, hj, by rw [e1]; exact (sw_at a i j).1, by rw [if_pos e1]⟩
      · by_cases e2 : x = j
        · exact ⟨i, hi, by rw [e2]; exact (sw_at a i j).2, by rw [if_neg e1, if_pos e2]⟩
        · exact ⟨x, hx, sw_ne a e1 e2, by rw [if_neg e1, if_neg e2]⟩
    obtain ⟨x', hx', ex, fx⟩ := hs x hx
    obtain ⟨y', hy', ey, fy⟩ := hs y hy
    have := hinj x' y' hx' hy' (by rw [← ex, ← ey]; exact e)
    rw [fx, fy] at this
    split at this <;> split at this <;> (try split at this) <;> (try split at this) <;> omega

/-- What stands in a heap a of n blocks, the one touched longest ago first: s. K: each block's key, W: when it was touched. -/
structure AgS (K W : Nat → Int) (now : Int) (a : Nat → Nat) (n : Nat) (s : List Nat) : Prop where
  len : s.length = n
  mem : ∀ b, b ∈ s ↔ ∃ j, j < n ∧ a j = b
  inj : ∀ i j, i < n → j < n → a i = a j → i = j
  srt : s.Pairwise (fun x y => W x < W y)
  now : ∀ b, b ∈ s → W b ≤ now
  key : ∀ x y, x ∈ s → y ∈ s → K x = K y → x = y
theorem ag_nil (K W : Nat → Int) (a : Nat → Nat) : AgS K W 0 a 0 [] := ⟨rfl, by simp, by omega, by simp, by simp, by simp⟩
theorem ag_pm {K W : Nat → Int} {now : Int} {a b : Nat → Nat} {n : Nat} {s : List Nat} (h : AgS K W now a n s) (hp : Pm a b n) : AgS K W now b n s :=
  ⟨h.len, fun x => ⟨fun hx => by obtain ⟨j, hj, e⟩ := (h.mem x).1 hx; obtain ⟨i, hi, e2⟩ := hp.2.1 j hj; exact ⟨i, hi, e2.trans e⟩, fun ⟨j, hj, e⟩ => by obtain ⟨i, hi, e2⟩ := hp.1 j hj; exact (h.mem x).2 ⟨i, hi, e2.symm.trans e⟩⟩,
   hp.2.2 h.inj, h.srt, h.now, h.key⟩
theorem ag_nodup {K W : Nat → Int} {now : Int} {a : Nat → Nat} {n : Nat} {s : List Nat} (h : AgS K W now a n s) : s.Nodup :=
  h.srt.imp (fun {x y} hxy e => by rw [e] at hxy; omega)
theorem filter_len_ne {s : List Nat} {b : Nat} (hn : s.Nodup) (hb : b ∈ s) : (s.filter (· ≠ b)).length + 1 = s.length := by
  induction s with
  | nil => cases hb
  | cons x xs ih =>
    rw [List.nodup_cons] at hn
    by_cases e : x = b
    · subst e
      have h1 : xs.filter (fun y => decide (y ≠ x)) = xs := by
        rw [List.filter_eq_self]
        intro y hy; simp; intro e; rw [e] at hy; exact hn.1 hy
      rw [List.filter_cons_of_neg (by simp), h1]; rfl
    · have hb2 : b ∈ xs := by rcases List.mem_cons.1 hb with h | h; exact absurd h.symm e; exact h
      have := ih hn.2 hb2
      simp [e]
      simpa using this
theorem ag_touch {K W : Nat → Int} {now : Int} {a : Nat → Nat} {n : Nat} {s : List Nat} (h : AgS K W now a n s) {b : Nat} (hb : b ∈ s) :
    AgS K (fun x => if x = b then now + 1 else W x) (now + 1) a n (s.filter (· ≠ b) ++ [b]) := by
  have hmem : ∀ x, x ∈ s.filter (· ≠ b) ++ [b] ↔ x ∈ s := by
    intro x
    simp only [List.mem_append, List.mem_filter, List.mem_singleton, decide_eq_true_eq]
    constructor
    · rintro (⟨h1, _⟩ | rfl)
      · exact h1
      · exact hb
    · intro h1
      by_cases e : x = b
      · exact .inr e
      · exact .inl ⟨h1, e⟩
  refine ⟨by rw [List.length_append, List.length_singleton, filter_len_ne (ag_nodup h) hb]; exact h.len, fun x => (hmem x).trans (h.mem x), h.inj, ?_, ?_, fun x y hx hy => h.key x y ((hmem x).1 hx) ((hmem y).1 hy)⟩
  · rw [List.pairwise_append]
    refine ⟨?_, by simp, ?_⟩
    · refine (h.srt.filter _).imp_of_mem ?_
      intro x y hx hy hxy
      have hx2 : x ≠ b := by simpa using (List.mem_filter.1 hx).2
      have hy2 : y ≠ b := by simpa using (List.mem_filter.1 hy).2
      rw [if_neg hx2, if_neg hy2]; exact hxy
    · intro x hx y hy
      have hx2 : x ≠ b := by simpa using (List.mem_filter.1 hx).2
      obtain rfl : y = b := by simpa using hy
      rw [if_neg hx2, if_pos rfl]
      have := h.now x (List.mem_filter.1 hx).1
      omega
  · intro x hx
    by_cases e : x = b
    · show (if x = b then now + 1 else W x) ≤ now + 1; rw [if_pos e]; omega
    · show (if x = b then now + 1 else W x) ≤ now + 1; rw [if_neg e]; have := h.now x ((hmem x).1 hx); omega
theorem ag_new {K W K' W' : Nat → Int} {now : Int} {a a' : Nat → Nat} {n : Nat} {s : List Nat} (h : AgS K W now a n s) {b : Nat} (hb : b ∉ s) (hk : ∀ x, x ∈ s → K x ≠ K' b)
    (ha : ∀ j, j < n → a' j = a j) (ha2 : a' n = b) (hK : ∀ x, x ∈ s → K' x = K x) (hW : ∀ x, x ∈ s → W' x = W x) (hWb : W' b = now + 1) :
    AgS K' W' (now + 1) a' (n + 1) (s ++ [b]) := by
  refine ⟨by rw [List.length_append, h.len]; rfl, ?_, ?_, ?_, ?_, ?_⟩
  · intro x
    simp only [List.mem_append, List.mem_singleton]
    constructor
    · rintro (hx | rfl)
      · obtain ⟨j, hj, e⟩ := (h.mem x).1 hx
        exact ⟨j, by omega, by rw [ha j hj]; exact e⟩
      · exact ⟨n, by omega, ha2⟩
    · rintro ⟨j, hj, e⟩
      by_cases e2 : j = n
      · exact .inr (by rw [← e, e2, ha2])
      · exact .inl ((h.mem x).2 ⟨j, by omega, by rw [← ha j (by omega)]; exact e⟩)
  · intro i j hi hj e
    by_cases ei : i = n
    · by_cases ej : j = n
      · omega
      · exfalso; apply hb
        rw [(h.mem b)]
        exact ⟨j, by omega, by rw [← ha j (by omega), ← e, ei, ha2]⟩
    · by_cases ej : j = n
      · exfalso; apply hb
        rw [(h.mem b)]
        exact ⟨i, by omega, by rw [← ha i (by omega), e, ej, ha2]⟩
      · rw [ha i (by omega), ha j (by omega)] at e
        exact h.inj i j (by omega) (by omega) e
  · rw [List.pairwise_append]
    refine ⟨h.srt.imp_of_mem (fun {x y} hx hy hxy => by rw [hW x hx, hW y hy]; exact hxy), by simp, ?_⟩
    intro x hx y hy
    obtain rfl : y = b := by simpa using hy
    rw [hW x hx, hWb]
    have := h.now x hx; omega
  · intro x hx
    rcases List.mem_append.1 hx with hx | hx
    · rw [hW x hx]; have := h.now x hx; omega
    · obtain rfl : x = b := by simpa using hx
      rw [hWb]; omega
  · intro x y hx hy e
    rcases List.mem_append.1 hx with hxs | hxs
    · rcases List.mem_append.1 hy with hys | hys
      · rw [hK x hxs, hK y hys] at e; exact h.key x y hxs hys e
      · have ey : y = b := by simpa using hys
        rw [hK x hxs, ey] at e; exact absurd e (hk x hxs)
    · have ex : x = b := by simpa using hxs
      rcases List.mem_append.1 hy with hys | hys
      · rw [hK y hys, ex] at e; exact absurd e.symm (hk y hys)
      · have ey : y = b := by simpa using hys
        rw [ex, ey]
theorem ag_drop {K W : Nat → Int} {now : Int} {a : Nat → Nat} {n : Nat} {s : List Nat} (h : AgS K W now a (n + 1) s) : AgS K W now a n (s.filter (· ≠ a n)) := by
  have hb : a n ∈ s := (h.mem _).2 ⟨n, by omega, rfl⟩
  refine ⟨by have := filter_len_ne (ag_nodup h) hb; have := h.len; omega, ?_, fun i j hi hj => h.inj i j (by omega) (by omega), h.srt.filter _, fun b hb => h.now b (List.mem_filter.1 hb).1, fun x y hx hy => h.key x y (List.mem_filter.1 hx).1 (List.mem_filter.1 hy).1⟩
  intro x
  simp only [List.mem_filter, decide_eq_true_eq]
  constructor
  · rintro ⟨h1, h2⟩
    obtain ⟨j, hj, e⟩ := (h.mem x).1 h1
    refine ⟨j, ?_, e⟩
    by_cases ej : j = n
    · rw [ej] at e; exact absurd e.symm h2
    · omega
  · rintro ⟨j, hj, e⟩
    refine ⟨(h.mem x).2 ⟨j, by omega, e⟩, fun e2 => ?_⟩
    have := h.inj j n (by omega) (by omega) (by rw [e, e2]); omega
theorem ag_old {K W : Nat → Int} {now : Int} {a : Nat → Nat} {n : Nat} {s : List Nat} (h : AgS K W now a n s) (hp : Hp W a n) (hn : 0 < n) : ∃ r, s = a 0 :: r := by
  have h0 : a 0 ∈ s := (h.mem _).2 ⟨0, hn, rfl⟩
  match s, h0, h with
  | x :: r, h0, h =>
    rcases List.mem_cons.1 h0 with e | e
    · exact ⟨r, by rw [e]⟩
    · have h1 := (List.pairwise_cons.1 h.srt).1 _ e
      obtain ⟨j, hj, ej⟩ := (h.mem x).1 (by simp)
      have h2 := hp_root hp j hj
      rw [ej] at h2; omega
theorem srt_inj {W : Nat → Int} : ∀ {s : List Nat}, s.Pairwise (fun x y => W x < W y) → ∀ x y, x ∈ s → y ∈ s → W x = W y → x = y
  | [], _, _, _, hx, _, _ => by cases hx
  | z :: r, h, x, y, hx, hy, e => by
    obtain ⟨h1, h2⟩ := List.pairwise_cons.1 h
    rcases List.mem_cons.1 hx with ex | ex
    · rcases List.mem_cons.1 hy with ey | ey
      · rw [ex, ey]
      · have := h1 y ey; rw [ex] at e; omega
    · rcases List.mem_cons.1 hy with ey | ey
      · have := h1 x ex; rw [ey] at e; omega
      · exact srt_inj h2 x y ex ey e
/-- A row of the same blocks, sorted, is s. -/
theorem ag_all {K W : Nat → Int} {now : Int} {a : Nat → Nat} {n : Nat} {s l : List Nat} (h : AgS K W now a n s) (hl : l.Perm ((List.range n).map a)) (hs : l.Pairwise (fun x y => W x ≤ W y)) : l = s := by
  have hn : ((List.range n).map a).Nodup := by
    unfold List.Nodup
    rw [List.pairwise_map]
    refine List.Pairwise.imp_of_mem ?_ (List.nodup_range (n := n))
    intro x y hx hy hne e
    exact hne (h.inj x y (List.mem_range.1 hx) (List.mem_range.1 hy) e)
  have hp : l.Perm s := by
    refine hl.trans ?_
    rw [List.perm_ext_iff_of_nodup hn (ag_nodup h)]
    intro b
    rw [h.mem b, List.mem_map]
    constructor
    · rintro ⟨j, hj, e⟩; exact ⟨j, List.mem_range.1 hj, e⟩
    · rintro ⟨j, hj, e⟩; exact ⟨j, List.mem_range.2 hj, e⟩
  refine hp.eq_of_pairwise (le := fun x y => W x ≤ W y) ?_ hs (h.srt.imp (fun {x y} hxy => by omega))
  intro x y hx hy h1 h2
  exact srt_inj h.srt x y (hp.mem_iff.1 hx) hy (by omega)
theorem map_without {K : Nat → Int} {s : List Nat} {b : Nat} (hk : ∀ x, x ∈ s → K x = K b → x = b) : (s.filter (· ≠ b)).map K = (s.map K).filter (· ≠ K b) := by
  induction s with
  | nil => rfl
  | cons x xs ih =>
    have ih' := ih (fun y hy => hk y (List.mem_cons_of_mem _ hy))
    by_cases e : x = b
    · rw [List.filter_cons_of_neg (by simp [e]), List.map_cons, List.filter_cons_of_neg (by simp [e]), ih']
    · have e2 : K x ≠ K b := fun h => e (hk x (by simp) h)
      rw [List.filter_cons_of_pos (by simp [e]), List.map_cons, List.map_cons, List.filter_cons_of_pos (by simp [e2]), ih']
theorem without_none {m : List Int} {k : Int} (h : k ∉ m) : m.filter (· ≠ k) = m := by
  rw [List.filter_eq_self]
  intro x hx; simp; intro e; rw [e] at hx; exact h hx
theorem map_upd {K K' : Nat → Int} {s : List Nat} (h : ∀ x, x ∈ s → K' x = K x) : s.map K' = s.map K := by
  induction s with
  | nil => rfl
  | cons x xs ih => rw [List.map_cons, List.map_cons, h x (by simp), ih (fun y hy => h y (List.mem_cons_of_mem _ hy))]
end
end Go.Proofs.YtahiaeaobbofbaaGreat
