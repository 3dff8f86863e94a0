/- What is joined, plain: the fewest runs there are; how many things they have. -/
import Derived.Test.YtjdboclibinjoaaFt4
set_option linter.unusedVariables false
namespace Go.Proofs.Ytjdboclibinjoaa
theorem jinv_take (l : List Rn) (hp : l.Pairwise (fun a b => a.1 ≤ b.1)) (hs : ∀ r ∈ l, r.1 < r.2) : ∀ k, k ≤ l.length → JInv (joinL (l.take k)) (l.take k)
  | 0, _ => by simpa [joinL] using jinv_nil
  | k + 1, hk => by
    have ih := jinv_take l hp hs k (by omega)
    have hlt : k < l.length := by omega
    rw [joinL_snoc l k hlt, List.take_succ_eq_append_getElem hlt]
    refine jinv_step ih ?_ (hs _ (List.getElem_mem hlt))
    intro p hpm
    obtain ⟨i, hi, rfl⟩ := List.mem_iff_getElem.1 hpm
    have hik : i < k := by simp at hi; omega
    rw [List.getElem_take]
    exact List.pairwise_iff_getElem.1 hp i k (by omega) hlt hik
theorem memR_flt (rs : List Rn) (i : Int) : MemR (flt rs) i ↔ MemR rs i := by
  constructor
  · rintro ⟨r, hr, h⟩
    exact ⟨r, (List.mem_filter.1 hr).1, h⟩
  · rintro ⟨r, hr, h⟩
    exact ⟨r, List.mem_filter.2 ⟨hr, by simp; omega⟩, h⟩
theorem join_law {rs rs1 : List Rn} (hperm : rs1.Perm (flt rs)) (hp : rs1.Pairwise (fun a b => a.1 ≤ b.1)) : Canon (joinL rs1) ∧ ∀ i, MemR (joinL rs1) i ↔ MemR rs i := by
  have hs : ∀ r ∈ rs1, r.1 < r.2 := fun r hr => by
    have := (List.mem_filter.1 (hperm.mem_iff.1 hr)).2
    simpa using this
  have h := jinv_take rs1 hp hs rs1.length (Nat.le_refl _)
  rw [List.take_length] at h
  exact ⟨h.canon, fun i => (h.mem i).trans ((memR_perm hperm i).trans (memR_flt rs i))⟩
/-- The runs as the fewest there are. -/
def joinF (rs : List Rn) : List Rn := joinL ((flt rs).mergeSort fun a b => decide (a.1 ≤ b.1))
theorem joinF_law (rs : List Rn) : Canon (joinF rs) ∧ ∀ i, MemR (joinF rs) i ↔ MemR rs i := by
  refine join_law (List.mergeSort_perm _ _) ?_
  have := List.pairwise_mergeSort (le := fun a b : Rn => decide (a.1 ≤ b.1)) (by intro a b c h1 h2; simp at *; omega) (by intro a b; simp; omega) (flt rs)
  exact this.imp (by intro a b h; simpa using h)
theorem joinF_eq {rs rs1 : List Rn} (hperm : rs1.Perm (flt rs)) (hp : rs1.Pairwise (fun a b => a.1 ≤ b.1)) : joinL rs1 = joinF rs := by
  have h1 := join_law hperm hp
  have h2 := joinF_law rs
  exact canon_ext h1.1 h2.1 fun i => (h1.2 i).trans (h2.2 i).symm
theorem joinF_of_canon {rs out : List Rn} (h : Canon out) (hm : ∀ i, MemR out i ↔ MemR rs i) : joinF rs = out := by
  have h2 := joinF_law rs
  exact canon_ext h2.1 h fun i => (h2.2 i).trans (hm i).symm
theorem joinF_len (rs : List Rn) : (joinF rs).length ≤ rs.length := by
  have h := joinL_len ((flt rs).mergeSort fun a b => decide (a.1 ≤ b.1)) (flt rs).length
  rw [List.take_of_length_le (by simp [List.length_mergeSort])] at h
  exact Nat.le_trans h (flt_le rs)
theorem mem_lo {l : List Rn} (h : Canon l) {r : Rn} (hr : r ∈ l) : MemR l r.1 ∧ MemR l (r.2 - 1) := by
  have := h.1 r hr
  exact ⟨⟨r, hr, by omega, by omega⟩, ⟨r, hr, by omega, by omega⟩⟩
theorem canon_range {l : List Rn} (h : Canon l) {lo hi : Int} (hm : ∀ i, MemR l i → lo ≤ i ∧ i < hi) : ∀ r ∈ l, lo ≤ r.1 ∧ r.2 ≤ hi := fun r hr => by
  have h1 := mem_lo h hr
  have := hm _ h1.1
  have := hm _ h1.2
  omega
def hasB (rs : List Rn) (i : Int) : Bool := rs.any fun r => decide (r.1 ≤ i) && decide (i < r.2)
theorem hasB_iff (rs : List Rn) (i : Int) : hasB rs i = true ↔ MemR rs i := by
  unfold hasB MemR
  simp
theorem hasB_congr {a b : List Rn} {i : Int} (h : MemR a i ↔ MemR b i) : hasB a i = hasB b i := by
  rw [Bool.eq_iff_iff, hasB_iff, hasB_iff]; exact h
theorem hasB_joinF (rs : List Rn) (i : Int) : hasB (joinF rs) i = hasB rs i := hasB_congr ((joinF_law rs).2 i)
def cntR (l : List Rn) : Int := (l.map fun r => r.2 - r.1).sum
theorem cntR_nil : cntR [] = 0 := rfl
theorem cntR_cons (r : Rn) (l : List Rn) : cntR (r :: l) = r.2 - r.1 + cntR l := by simp [cntR]
theorem cntR_snoc (l : List Rn) (k : Nat) (hk : k < l.length) : cntR (l.take (k + 1)) = cntR (l.take k) + (l[k].2 - l[k].1) := by
  rw [List.take_succ_eq_append_getElem hk]
  unfold cntR
  rw [List.map_append, List.sum_append]
  simp
theorem cnt_one (lo x y : Int) (h1 : lo ≤ x) (h2 : x ≤ y) : ∀ N : Nat, ((List.range N).countP fun j : Nat => decide (x ≤ lo + (j : Int)) && decide (lo + (j : Int) < y) : Nat) = (min y (lo + N) - min x (lo + N)).toNat
  | 0 => by simp; omega
  | N + 1 => by
    rw [List.range_succ, List.countP_append, cnt_one lo x y h1 h2 N]
    by_cases a : x ≤ lo + (N : Int) <;> by_cases b : lo + (N : Int) < y <;> simp [a, b] <;> omega
theorem countP_or {α : Type} (p q : α → Bool) (hd : ∀ a, p a = true → q a = false) : ∀ l : List α, (l.countP fun a => p a || q a) = l.countP p + l.countP q
  | [] => rfl
  | a :: l => by
    rw [List.countP_cons, List.countP_cons, List.countP_cons, countP_or p q hd l]
    have := hd a
    cases hp : p a <;> cases hq : q a <;> simp_all <;> omega
/-- How many things the runs have. -/
theorem cnt_all (lo : Int) (N : Nat) : ∀ {l : List Rn}, Canon l → (∀ r ∈ l, lo ≤ r.1 ∧ r.2 ≤ lo + N) → cntR l = ((List.range N).countP fun j : Nat => hasB l (lo + (j : Int)) : Nat)
  | [], _, _ => by
    rw [cntR_nil]
    have : (fun j : Nat => hasB [] (lo + (j : Int))) = fun _ => false := rfl
    rw [this]
    simp
  | r :: l, h, hb => by
    obtain ⟨h1, h2, h3⟩ := canon_cons h
    have ih := cnt_all lo N h3 (fun s hs => hb s (by simp [hs]))
    have e : (fun j : Nat => hasB (r :: l) (lo + (j : Int))) = fun j : Nat => (decide (r.1 ≤ lo + (j : Int)) && decide (lo + (j : Int) < r.2)) || hasB l (lo + (j : Int)) := rfl
    have hr := hb r (by simp)
    rw [e, countP_or, cnt_one lo r.1 r.2 hr.1 (by omega), cntR_cons, ih]
    · omega
    · intro j hj
      simp at hj
      rw [Bool.eq_false_iff]
      intro hc
      have := canon_far h ((hasB_iff l _).1 hc)
      omega
theorem cnt_mono {a b : List Rn} (ha : Canon a) (hb : Canon b) {lo : Int} {N : Nat} (h1 : ∀ r ∈ a, lo ≤ r.1 ∧ r.2 ≤ lo + N) (h2 : ∀ r ∈ b, lo ≤ r.1 ∧ r.2 ≤ lo + N) (hm : ∀ i, MemR a i → MemR b i) : cntR a ≤ cntR b := by
  rw [cnt_all lo N ha h1, cnt_all lo N hb h2]
  have := List.countP_mono_left (l := List.range N) (p := fun j : Nat => hasB a (lo + (j : Int))) (q := fun j : Nat => hasB b (lo + (j : Int))) (fun j _ hj => (hasB_iff _ _).2 (hm _ ((hasB_iff _ _).1 hj)))
  omega
theorem cnt_bound {a : List Rn} (ha : Canon a) {lo : Int} {N : Nat} (h1 : ∀ r ∈ a, lo ≤ r.1 ∧ r.2 ≤ lo + N) : 0 ≤ cntR a ∧ cntR a ≤ N := by
  rw [cnt_all lo N ha h1]
  have := List.countP_le_length (l := List.range N) (p := fun j : Nat => hasB a (lo + (j : Int)))
  simp at this
  omega
theorem canon_take {l : List Rn} (h : Canon l) (k : Nat) : Canon (l.take k) := ⟨fun r hr => h.1 r (List.mem_of_mem_take hr), h.2.take⟩
end Go.Proofs.Ytjdboclibinjoaa
