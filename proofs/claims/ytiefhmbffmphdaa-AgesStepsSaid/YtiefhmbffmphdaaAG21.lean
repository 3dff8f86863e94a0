/- ages: Touch of an Ages as a whole. -/
import Derived.Test.YtiefhmbffmphdaaAG20
set_option linter.unusedVariables false
namespace Go.Proofs.Ytiefhmbffmphdaa
open Go.RowKit
theorem Ag.touch {F : Nat → Prop} {w : World} {g : Nat} {now : Int} {m : List Int} (h : Ag F w g now m) {k : Int} (hk : -9223372036854775808 ≤ k ∧ k ≤ 9223372036854775807) (hnow : now ≤ 99999) :
    Calls Try.prog 6 #[.pointer (some ⟨g, 0, none⟩), .int .i64 k] w (Touched F w g now m k) := by
  obtain ⟨A, n, c, cnt, mv, a, K, W, s, M, Fh, hH, hp, hS, rfl, hFh, hM, hcn, hMk, hnn⟩ := h.ex
  cases hq : M k with
  | some b => exact Ag.touch_old hH hp hS hFh hM hcn hMk hnn h.lt hk (by omega) b hq
  | none =>
    have hno : k ∉ s.map K := fun hm => by
      obtain ⟨b, hb, hkb⟩ := List.mem_map.1 hm
      have := (hMk k b).2 ⟨hb, hkb⟩
      rw [hq] at this; cases this
    obtain ⟨mo, hmo, hmF⟩ : ∃ mo : Option Nat, ((mv = .map none ∧ M = (fun _ => none) ∧ mo = none) ∨ ∃ mb, mv = .map (some mb) ∧ mo = some mb ∧ ¬ Fh mb ∧ Mp Try.prog 3 w mb cnt M) ∧ ∀ i, some i = mo → F i := by
      rcases hM with ⟨e1, e2⟩ | ⟨mb, e1, h1, h2, h3⟩
      · exact ⟨none, .inl ⟨e1, e2, rfl⟩, fun i e => by cases e⟩
      · exact ⟨some mb, .inr ⟨mb, e1, rfl, h2, h3⟩, fun i e => by injection e with e; rw [e]; exact h1⟩
    refine (atouch_new mo hH hp (fun i hi => h.lt i (hFh i hi)) hmo k hk hq (by omega) (by omega) ⟨by omega, by omega⟩).mono ?_
    rintro e w' ⟨rfl, A', c', F', b, mb, q, hH', hp', hP', hM', hq0, hq1, hF', hFl, hnm, hmm, hml, hO⟩
    have hsq : ∀ x, x ∈ s → x ≠ q := fun x hx e => by
      obtain ⟨j, hj, ej⟩ := (hS.mem x).1 hx
      have := (hH.th j hj).lt
      omega
    have hS1 : AgS (fun x => if x = q then k else K x) (fun x => if x = q then now + 1 else W x) (now + 1) (fun j => if j = n then q else a j) (n + 1) (s ++ [q]) := by
      refine ag_new hS (fun hx => hsq q hx rfl) ?_ ?_ ?_ ?_ ?_ ?_
      · intro x hx e
        rw [if_pos rfl] at e
        exact hno (List.mem_map.2 ⟨x, hx, e⟩)
      · intro j hj; exact if_neg (by omega)
      · exact if_pos rfl
      · intro x hx; exact if_neg (hsq x hx)
      · intro x hx; exact if_neg (hsq x hx)
      · exact if_pos rfl
    have hS2 := ag_pm hS1 hP'
    have hOF : Only F w w' := ⟨hO.bel, fun i hi hn => hO.out i hi (fun e => by rcases e with e | e; exact hn (hFh i e); exact hn (hmF i e))⟩
    have hsz := hO.bel.size
    refine ⟨rfl, fun i => F i ∨ F' i ∨ i = mb, ⟨⟨A', n + 1, c', cnt + 1, .map (some mb), b, _, _, s ++ [q], _, F', hH', hp', hS2, ?_, fun i hi => .inr (.inl hi), .inr ⟨mb, rfl, .inr (.inr rfl), hnm, hM'⟩, by omega, ?_, by omega⟩, ?_⟩, ?_, hOF⟩
    · rw [List.map_append, map_upd (K := K) (fun x hx => if_neg (hsq x hx)), without_none hno]
      simp
    · intro z x
      show (if z = k then some q else M z) = some x ↔ x ∈ s ++ [q] ∧ (if x = q then k else K x) = z
      rw [List.mem_append, List.mem_singleton]
      by_cases ez : z = k
      · rw [if_pos ez]
        constructor
        · intro e; injection e with e
          exact ⟨.inr e.symm, by rw [if_pos e.symm, ez]⟩
        · rintro ⟨h1 | h1, h2⟩
          · rw [if_neg (hsq x h1)] at h2
            exact absurd (List.mem_map.2 ⟨x, h1, h2.trans ez⟩) hno
          · rw [h1]
      · rw [if_neg ez, hMk z x]
        constructor
        · rintro ⟨h1, h2⟩
          exact ⟨.inl h1, by rw [if_neg (hsq x h1)]; exact h2⟩
        · rintro ⟨h1 | h1, h2⟩
          · rw [if_neg (hsq x h1)] at h2; exact ⟨h1, h2⟩
          · rw [if_pos h1] at h2; exact absurd h2.symm ez
    · rintro i (e | e | e)
      · exact Nat.lt_of_lt_of_le (h.lt i e) hsz
      · exact hFl i e
      · rw [e]; exact hml
    · rintro i (e | e | e)
      · exact .inl e
      · rcases hF' i e with e | e
        · exact .inl (hFh i e)
        · exact .inr e
      · rw [e]
        rcases hmm with e2 | e2
        · exact .inl (hmF mb e2.symm)
        · exact .inr e2
end Go.Proofs.Ytiefhmbffmphdaa
