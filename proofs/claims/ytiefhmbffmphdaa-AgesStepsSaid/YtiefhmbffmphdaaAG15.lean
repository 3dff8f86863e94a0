/- ages: Drop of an Ages as a whole. -/
import Derived.Test.YtiefhmbffmphdaaAG14
set_option linter.unusedVariables false
namespace Go.Proofs.Ytiefhmbffmphdaa
open Go.RowKit
theorem Ag.drop {F : Nat → Prop} {w : World} {g : Nat} {now : Int} {m : List Int} (h : Ag F w g now m) {k : Int} (hk : -9223372036854775808 ≤ k ∧ k ≤ 9223372036854775807) (hnow : now ≤ 1000000) :
    Calls Try.prog 8 #[.pointer (some ⟨g, 0, none⟩), .int .i64 k] w fun e w' => e = .returned (.bool (decide (k ∈ m))) ∧ Ag F w' g now (m.filter (· ≠ k)) ∧ Only F w w' := by
  obtain ⟨A, n, c, cnt, mv, a, K, W, s, M, Fh, hH, hp, hS, rfl, hFh, hM, hcn, hMk, hnn⟩ := h.ex
  cases hq : M k with
  | none =>
    have hno : k ∉ s.map K := fun hm => by
      obtain ⟨b, hb, hkb⟩ := List.mem_map.1 hm
      have := (hMk k b).2 ⟨hb, hkb⟩
      rw [hq] at this; cases this
    have hlk := hM.look hk
    rw [hq] at hlk
    rw [decide_eq_false hno, without_none hno]
    refine (adrop_none hH.hg k hlk).mono ?_
    rintro e w' ⟨rfl, rfl⟩
    exact ⟨rfl, h, only_refl F w⟩
  | some b =>
    obtain ⟨hb, hkb⟩ := (hMk k b).1 hq
    obtain ⟨i, hi, hai⟩ := (hS.mem b).1 hb
    obtain ⟨n', rfl⟩ : ∃ n', n = n' + 1 := ⟨n - 1, by omega⟩
    rw [decide_eq_true (List.mem_map.2 ⟨b, hb, hkb⟩)]
    rcases hM with ⟨_, hM0⟩ | ⟨mb, rfl, hFm, hnF, hM⟩
    · rw [hM0] at hq; cases hq
    · refine (adrop_some hH hp hM hnF i (by omega) k hk (by rw [hq, hai]) (by omega)).mono ?_
      rintro e w' ⟨rfl, b', hH', hp', hP', hbn, hM', hO⟩
      have hOF : Only F w w' := ⟨hO.bel, fun i hi hn => hO.out i hi (fun e => by rcases e with e | rfl; exact hn (hFh i e); exact hn hFm)⟩
      have hS2 := ag_drop (ag_pm hS hP')
      rw [hbn, hai] at hS2
      refine ⟨rfl, ⟨⟨A, n', c, cnt, .map (some mb), b', K, W, s.filter (· ≠ b), fun z => if z = k then none else M z, Fh, hH', hp', hS2, ?_, hFh, .inr ⟨mb, rfl, hFm, hnF, hM'⟩, hcn, ?_, by omega⟩, fun i hi => Nat.lt_of_lt_of_le (h.lt i hi) hO.bel.size⟩, hOF⟩
      · rw [map_without (fun x hx e => hS.key x b hx hb e), hkb]
      · intro z x
        show (if z = k then none else M z) = some x ↔ _
        by_cases ez : z = k
        · rw [if_pos ez]
          constructor
          · intro e; cases e
          · rintro ⟨h1, h2⟩
            have h3 := List.mem_filter.1 h1
            exact absurd (hS.key x b h3.1 hb (by rw [h2, ez, hkb])) (by simpa using h3.2)
        · rw [if_neg ez, hMk]
          simp only [List.mem_filter, decide_eq_true_eq]
          constructor
          · rintro ⟨h1, h2⟩
            exact ⟨⟨h1, fun e => ez (by rw [← h2, e, hkb])⟩, h2⟩
          · rintro ⟨⟨h1, _⟩, h2⟩
            exact ⟨h1, h2⟩
end Go.Proofs.Ytiefhmbffmphdaa
