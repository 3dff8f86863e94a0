/- Runs that are sorted in memory. -/
import Derived.Test.YtjdboclibinjoaaFt2
import Derived.Shelf.SlSortCmp.WholeK
import Derived.Shelf.SlSortCmp.NoneTotal
set_option linter.unusedVariables false
namespace Go.Proofs.Ytjdboclibinjoaa
open Go.RowKit Go.Sort Go.Lib Go.Shelf
theorem sort_none (v : Value) (hv : v = .slice none 0 0) (w : World) : Calls Try.prog 49 #[v, .func (.func 50) #[] #[]] w fun e w' => e = .returned (.tuple #[]) ∧ w' = w := by
  subst hv
  have h := AnyF.slices_SortFunc_none sortRun none 0 (.func (.func 50) #[] #[]) w
  exact h
theorem sort_some (rs : List Rn) (g c : Nat) (w : World) (hH : HoldsK encRn 2 w g 0 rs.toArray) (hg : g < w.heap.size) (hn : rs.length < 4611686018427387904) :
    Calls Try.prog 49 #[.slice (some ⟨g, 0, none⟩) rs.length c, .func (.func 50) #[] #[]] w fun e w' =>
      e = .returned (.tuple #[]) ∧ ∃ (d' : Array Rn) (q : Nat) (os : Array Obj), PermIn 0 rs.length rs.toArray d' ∧ SortedIn (ltOf fun x y : Rn => cmpR x.1 y.1) 0 rs.length d' ∧ w' = sortWorldK encRn 2 w g 0 q d' os := by
  have eg : ∀ args w, (callFunc 50 args).run Try.prog w = .ok (.enter 50 args) w := enters_of Try.func50 (by kernel_rfl) rfl
  have hcon := AnyQ.slices_SortFunc sortRun 2 Try.isAgg35 Try.sizeOf35 encRn (fun _ => rfl) (fun x v hv => by simp [encRn] at hv; rcases hv with rfl | rfl <;> rfl) (fun x y : Rn => cmpR x.1 y.1) swoLo 50 #[] g 0 c rs.toArray w eg (cmpLaysR g 0 _ w) hH hg (by simpa using hn)
  change Calls Try.prog 49 _ _ _ at hcon
  simpa using hcon
theorem sort_any (rs : List Rn) (v : Value) (base n : Nat) (w : World) (hown : w.ownsRow base 35 2 v n (encR rs)) (hB : base ≤ w.heap.size) (hn : n < 4611686018427387904) :
    Calls Try.prog 49 #[v, .func (.func 50) #[] #[]] w fun e w' =>
      e = .returned (.tuple #[]) ∧ ∃ rs' : List Rn, rs'.Perm rs ∧ rs'.Pairwise (fun a b => a.1 ≤ b.1) ∧ w'.ownsRow base 35 2 v n (encR rs') ∧ Go.RowKit.Below base w w' := by
  by_cases hne : rs = []
  · subst hne
    have hl := hown.1
    have h0 : n = 0 := by simp [encR] at hl; omega
    subst h0
    rcases hown.2 with ⟨e0, e1⟩ | ⟨g, cap, cur, rfl, hb, hg, hn, hm, hs, ht⟩
    · refine (sort_none v e0 w).mono ?_
      rintro e w' ⟨rfl, rfl⟩
      exact ⟨rfl, [], .refl _, .nil, hown, Below.refl _ _⟩
    · have hlt : g < w.heap.size := by
        rcases Nat.lt_or_ge g w.heap.size with h' | h'
        · exact h'
        · rw [Array.getElem?_eq_none h'] at hg; cases hg
      have hH : HoldsK encRn 2 w g 0 ([] : List Rn).toArray := by
        intro j hj
        simp at hj
      refine (sort_some [] g cap w hH hlt (by simp)).mono ?_
      rintro e w' ⟨rfl, d', q, os, hp, hs', rfl⟩
      have hd : d' = ([] : List Rn).toArray := by
        have := hp.1
        simpa using this
      subst hd
      exact ⟨rfl, [], .refl _, .nil, own_sorted hown rfl hlt q os, below_sorted hb hB q _ os⟩
  · obtain ⟨g, cap, rfl, hb, hg, hl, hH⟩ := holdsK_own hown hne
    subst hl
    refine (sort_some rs g cap w hH hg hn).mono ?_
    rintro e w' ⟨rfl, d', q, os, hp, hs', rfl⟩
    have hsz : d'.size = rs.length := by simpa using hp.1
    have hperm : d'.toList.Perm rs := by
      have := hp.2.2
      rw [← hsz, Array.extract_size, hsz] at this
      simpa using this
    refine ⟨rfl, d'.toList, hperm, ?_, ?_, below_sorted hb hB q _ os⟩
    · rw [List.pairwise_iff_getElem]
      intro i j hi hj hij
      have := hs' i j (by omega) hij (by simpa [hsz] using hj)
      rw [ltLo] at this
      have hi' : i < d'.size := by simpa using hi
      have hj' : j < d'.size := by simpa using hj
      simp only [getElem!_pos d' i hi', getElem!_pos d' j hj'] at this
      simp at this ⊢
      omega
    · have := own_sorted (ys := d'.toList) hown (by simpa using hsz) hg q os
      simpa using this
end Go.Proofs.Ytjdboclibinjoaa
