/- Runs of things: plain. -/
import Derived.Test.YtjdboclibinjoaaBase
set_option linter.unusedVariables false
namespace Go.Proofs.Ytjdboclibinjoaa
abbrev Rn := Int × Int
/-- Whether runs have a thing. -/
def MemR (rs : List Rn) (i : Int) : Prop := ∃ r ∈ rs, r.1 ≤ i ∧ i < r.2
/-- As few as there are. -/
def Canon (l : List Rn) : Prop := (∀ r ∈ l, r.1 < r.2) ∧ l.Pairwise (fun a b => a.2 < b.1)
theorem canon_nil : Canon [] := ⟨by simp, .nil⟩
theorem memR_nil (i : Int) : ¬ MemR [] i := by rintro ⟨r, h, _⟩; cases h
theorem memR_cons (r : Rn) (l : List Rn) (i : Int) : MemR (r :: l) i ↔ (r.1 ≤ i ∧ i < r.2) ∨ MemR l i := by
  constructor
  · rintro ⟨s, hs, h⟩
    rcases List.mem_cons.1 hs with rfl | hs
    · exact .inl h
    · exact .inr ⟨s, hs, h⟩
  · rintro (h | ⟨s, hs, h⟩)
    · exact ⟨r, by simp, h⟩
    · exact ⟨s, by simp [hs], h⟩
theorem memR_append (a b : List Rn) (i : Int) : MemR (a ++ b) i ↔ MemR a i ∨ MemR b i := by
  constructor
  · rintro ⟨s, hs, h⟩
    rcases List.mem_append.1 hs with hs | hs
    · exact .inl ⟨s, hs, h⟩
    · exact .inr ⟨s, hs, h⟩
  · rintro (⟨s, hs, h⟩ | ⟨s, hs, h⟩)
    · exact ⟨s, by simp [hs], h⟩
    · exact ⟨s, by simp [hs], h⟩
theorem memR_perm {a b : List Rn} (h : a.Perm b) (i : Int) : MemR a i ↔ MemR b i := by
  constructor
  · rintro ⟨s, hs, k⟩; exact ⟨s, h.mem_iff.1 hs, k⟩
  · rintro ⟨s, hs, k⟩; exact ⟨s, h.mem_iff.2 hs, k⟩
theorem canon_cons {r : Rn} {l : List Rn} (h : Canon (r :: l)) : r.1 < r.2 ∧ (∀ s ∈ l, r.2 < s.1) ∧ Canon l := by
  obtain ⟨h1, h2⟩ := h
  rw [List.pairwise_cons] at h2
  exact ⟨h1 r (by simp), h2.1, fun s hs => h1 s (by simp [hs]), h2.2⟩
/-- What comes behind the first run lies beyond it. -/
theorem canon_far {r : Rn} {l : List Rn} (h : Canon (r :: l)) {i : Int} (hi : MemR l i) : r.2 < i := by
  obtain ⟨s, hs, h1, h2⟩ := hi
  have := (canon_cons h).2.1 s hs
  omega
theorem canon_ext : ∀ {a b : List Rn}, Canon a → Canon b → (∀ i, MemR a i ↔ MemR b i) → a = b
  | [], [], _, _, _ => rfl
  | [], s :: b, _, hb, h => absurd ((h s.1).2 ((memR_cons _ _ _).2 (.inl ⟨Int.le_refl _, (canon_cons hb).1⟩))) (memR_nil _)
  | r :: a, [], ha, _, h => absurd ((h r.1).1 ((memR_cons _ _ _).2 (.inl ⟨Int.le_refl _, (canon_cons ha).1⟩))) (memR_nil _)
  | r :: a, s :: b, ha, hb, h => by
    have hr := canon_cons ha
    have hs := canon_cons hb
    have e1 : s.1 ≤ r.1 := by
      rcases (memR_cons _ _ _).1 ((h r.1).1 ((memR_cons _ _ _).2 (.inl ⟨Int.le_refl _, hr.1⟩))) with k | k
      · exact k.1
      · have := canon_far hb k; omega
    have e2 : r.1 ≤ s.1 := by
      rcases (memR_cons _ _ _).1 ((h s.1).2 ((memR_cons _ _ _).2 (.inl ⟨Int.le_refl _, hs.1⟩))) with k | k
      · exact k.1
      · have := canon_far ha k; omega
    have e3 : s.2 ≤ r.2 := by
      rcases Int.lt_or_le r.2 s.2 with g | g
      · rcases (memR_cons _ _ _).1 ((h r.2).2 ((memR_cons _ _ _).2 (.inl ⟨by omega, g⟩))) with k | k
        · omega
        · have := canon_far ha k; omega
      · exact g
    have e4 : r.2 ≤ s.2 := by
      rcases Int.lt_or_le s.2 r.2 with g | g
      · rcases (memR_cons _ _ _).1 ((h s.2).1 ((memR_cons _ _ _).2 (.inl ⟨by omega, g⟩))) with k | k
        · omega
        · have := canon_far hb k; omega
      · exact g
    have e : r = s := Prod.ext (by omega) (by omega)
    subst e
    have ht : ∀ i, MemR a i ↔ MemR b i := by
      intro i
      constructor
      · intro hi
        have := canon_far ha hi
        rcases (memR_cons _ _ _).1 ((h i).1 ((memR_cons _ _ _).2 (.inr hi))) with k | k
        · omega
        · exact k
      · intro hi
        have := canon_far hb hi
        rcases (memR_cons _ _ _).1 ((h i).2 ((memR_cons _ _ _).2 (.inr hi))) with k | k
        · omega
        · exact k
    rw [canon_ext hr.2.2 hs.2.2 ht]
/-- One run more, behind those that begin before it. -/
def stepR (out : List Rn) (r : Rn) : List Rn := match out.getLast? with
  | none => [r]
  | some q => if r.1 ≤ q.2 then out.dropLast ++ [(q.1, max q.2 r.2)] else out ++ [r]
/-- What was joined so far. -/
structure JInv (out pre : List Rn) : Prop where
  canon : Canon out
  mem : ∀ i, MemR out i ↔ MemR pre i
  from_ : ∀ q ∈ out, ∃ p ∈ pre, q.1 = p.1
theorem canon_snoc {o : List Rn} {q : Rn} : Canon (o ++ [q]) ↔ Canon o ∧ q.1 < q.2 ∧ ∀ x ∈ o, x.2 < q.1 := by
  unfold Canon
  rw [List.pairwise_append]
  constructor
  · rintro ⟨h1, h2, _, h3⟩
    exact ⟨⟨fun r hr => h1 r (by simp [hr]), h2⟩, h1 q (by simp), fun x hx => h3 x hx q (by simp)⟩
  · rintro ⟨⟨h1, h2⟩, h3, h4⟩
    refine ⟨?_, h2, by simp, ?_⟩
    · intro r hr
      rcases List.mem_append.1 hr with hr | hr
      · exact h1 r hr
      · rw [List.mem_singleton] at hr; subst hr; exact h3
    · intro x hx y hy
      rw [List.mem_singleton] at hy; subst hy
      exact h4 x hx
theorem jinv_nil : JInv [] [] := ⟨canon_nil, fun i => Iff.rfl, by simp⟩
theorem jinv_step {out pre : List Rn} {r : Rn} (h : JInv out pre) (hp : ∀ p ∈ pre, p.1 ≤ r.1) (hr : r.1 < r.2) : JInv (stepR out r) (pre ++ [r]) := by
  rcases List.eq_nil_or_concat out with e | ⟨o, q, e⟩
  · subst e
    have e : stepR [] r = [r] := rfl
    rw [e]
    refine ⟨⟨by simpa using hr, by simp⟩, fun i => ?_, fun q hq => ⟨r, by simp, by simp at hq; rw [hq]⟩⟩
    rw [memR_append, ← h.mem i, memR_cons]
    constructor
    · rintro (k | k)
      · exact .inr (.inl k)
      · exact absurd k (memR_nil _)
    · rintro (k | k | k)
      · exact absurd k (memR_nil _)
      · exact .inl k
      · exact absurd k (memR_nil _)
  · have e' : out = o ++ [q] := by rw [e]; simp
    subst e'
    obtain ⟨c1, c2, c3⟩ := canon_snoc.1 h.canon
    obtain ⟨p0, hp0, ep⟩ := h.from_ q (by simp)
    have hq := hp p0 hp0
    have es : stepR (o ++ [q]) r = if r.1 ≤ q.2 then o ++ [(q.1, max q.2 r.2)] else o ++ [q] ++ [r] := by
      unfold stepR
      simp
    rw [es]
    split
    · rename_i hle
      refine ⟨canon_snoc.2 ⟨c1, by show q.1 < max q.2 r.2; omega, c3⟩, fun i => ?_, ?_⟩
      · rw [memR_append pre, ← h.mem i, memR_append o, memR_append o, memR_cons, memR_cons, memR_cons]
        have n1 := memR_nil i
        constructor
        · rintro (k | k | k)
          · exact .inl (.inl k)
          · by_cases g : i < q.2
            · exact .inl (.inr (.inl ⟨k.1, g⟩))
            · refine .inr (.inl ⟨by omega, ?_⟩)
              have := k.2
              simp only at this
              omega
          · exact absurd k n1
        · rintro ((k | k | k) | k | k)
          · exact .inl k
          · exact .inr (.inl ⟨k.1, by show i < max q.2 r.2; omega⟩)
          · exact absurd k n1
          · exact .inr (.inl ⟨by show q.1 ≤ i; omega, by show i < max q.2 r.2; omega⟩)
          · exact absurd k n1
      · intro x hx
        rcases List.mem_append.1 hx with hx | hx
        · obtain ⟨p, hp, e⟩ := h.from_ x (by simp [hx])
          exact ⟨p, by simp [hp], e⟩
        · rw [List.mem_singleton] at hx; subst hx
          exact ⟨p0, by simp [hp0], ep⟩
    · rename_i hgt
      refine ⟨canon_snoc.2 ⟨h.canon, hr, ?_⟩, fun i => ?_, ?_⟩
      · intro x hx
        rcases List.mem_append.1 hx with hx | hx
        · have := c3 x hx; omega
        · rw [List.mem_singleton] at hx; subst hx; omega
      · rw [memR_append, memR_append pre, h.mem i]
      · intro x hx
        rcases List.mem_append.1 hx with hx | hx
        · obtain ⟨p, hp, e⟩ := h.from_ x hx
          exact ⟨p, by simp [hp], e⟩
        · rw [List.mem_singleton] at hx; subst hx
          exact ⟨x, by simp, rfl⟩
end Go.Proofs.Ytjdboclibinjoaa
