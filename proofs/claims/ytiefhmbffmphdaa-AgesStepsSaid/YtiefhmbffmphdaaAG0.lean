/- A heap of things in memory, over a footprint of blocks. -/
import Derived.Test.YtiefhmbffmphdaaLie
import Derived.Test.YtiefhmbffmphdaaApp
import Derived.Test.YtiefhmbffmphdaaHP
import Derived.Laws.OwnMore
set_option linter.unusedVariables false
namespace Go.Proofs.Ytiefhmbffmphdaa
open Go.RowKit
def ptrs (a : Nat → Nat) (n : Nat) : List Value := (List.range n).map fun j => .pointer (some ⟨a j, 0, none⟩)
theorem ptrs_len (a : Nat → Nat) (n : Nat) : (ptrs a n).length = n := by simp [ptrs]
theorem ptrs_get (a : Nat → Nat) (n j : Nat) (h : j < n) : (ptrs a n)[j]? = some (.pointer (some ⟨a j, 0, none⟩)) := by simp [ptrs, h]
theorem ptrs_sw (a : Nat → Nat) (n i k : Nat) (hi : i < n) (hk : k < n) : ((ptrs a n).set i (.pointer (some ⟨a k, 0, none⟩))).set k (.pointer (some ⟨a i, 0, none⟩)) = ptrs (sw a i k) n := by
  apply List.ext_getElem?
  intro j
  by_cases hj : j < n
  · rw [ptrs_get _ _ _ hj]
    by_cases e2 : j = k
    · subst e2
      rw [List.getElem?_set_self (by simp [ptrs_len]; exact hj), (sw_at a i j).2]
    · rw [List.getElem?_set_ne (Ne.symm e2)]
      by_cases e1 : j = i
      · subst e1
        rw [List.getElem?_set_self (by rw [ptrs_len]; exact hj), (sw_at a j k).1]
      · rw [List.getElem?_set_ne (Ne.symm e1), ptrs_get _ _ _ hj, sw_ne a e1 e2]
  · rw [List.getElem?_eq_none (by simp [ptrs_len]; omega), List.getElem?_eq_none (by rw [ptrs_len]; omega)]
/-- Blocks out of F lie as they lay. -/
structure Only (F : Nat → Prop) (w w' : World) : Prop where
  bel : Below 0 w w'
  out : ∀ i, i < w.heap.size → ¬ F i → w'.heap[i]? = w.heap[i]?
theorem only_refl (F : Nat → Prop) (w : World) : Only F w w := ⟨Below.refl 0 w, fun _ _ _ => rfl⟩
theorem Only.trans {F G : Nat → Prop} {w w' w'' : World} (h : Only F w w') (g : Only G w' w'') (hFG : ∀ i, G i → F i ∨ w.heap.size ≤ i) : Only F w w'' :=
  ⟨h.bel.trans g.bel, fun i hi hF => (g.out i (Nat.lt_of_lt_of_le hi h.bel.size) (fun hG => by rcases hFG i hG with h1 | h1; exact hF h1; omega)).trans (h.out i hi hF)⟩
theorem only_below {F : Nat → Prop} {w w' : World} (h : Below w.heap.size w w') : Only F w w' := ⟨h.mono (Nat.zero_le _), fun i hi _ => h.block i hi⟩
theorem only_gb {F : Nat → Prop} {w w' : World} {g : Nat} (h : w.grownBy w' (some g)) (hF : F g) : Only F w w' :=
  ⟨⟨h.os, h.tape, h.output, h.size, fun i hi => by omega⟩, fun i hi hn => h.block i hi (by intro e; injection e with e; subst e; exact hn hF)⟩
/-- A heap of things in memory. -/
structure Hw (F : Nat → Prop) (w : World) (g : Nat) (A : Option Addr) (n c : Nat) (mv : Value) (now : Int) (a : Nat → Nat) (K W : Nat → Int) : Prop where
  hg : Bk w g 29 #[.slice A n c, mv, .int .i64 now]
  row : w.ownsRow 0 45 1 (.slice A n c) n (ptrs a n)
  th : ∀ j, j < n → Bk w (a j) 48 #[.int .i64 (K (a j)), .int .i64 (W (a j)), .int .i64 (j : Nat)]
  inj : ∀ i j, i < n → j < n → a i = a j → i = j
  fg : F g
  fr : ∀ b, (Value.slice A n c).ownBlock = some b → F b
  ft : ∀ j, j < n → F (a j)
/-- The row's cells. -/
theorem Hw.cell {F : Nat → Prop} {w : World} {g : Nat} {A : Option Addr} {n c : Nat} {mv : Value} {now : Int} {a : Nat → Nat} {K W : Nat → Int} (h : Hw F w g A n c mv now a K W) (j : Nat) (hj : j < n) :
    ∃ r cur, A = some ⟨r, 0, none⟩ ∧ F r ∧ w.heap[r]? = some (.cells cur 45 (0, 0)) ∧ n ≤ c ∧ cur.size = c ∧ w.cell? ⟨r, j, none⟩ = some (.pointer (some ⟨a j, 0, none⟩)) := by
  rcases h.row.2 with ⟨e, e2⟩ | ⟨r, cap, cur, e, _, hh, hn, hm, hs, ht⟩
  · omega
  · injection e with e1 e2 e3
    subst e1 e3
    have hc : cur[j]? = some (.pointer (some ⟨a j, 0, none⟩)) := by
      have h2 := ptrs_get a n j hj
      rw [← ht, List.getElem?_take, if_pos (by omega)] at h2
      simpa using h2
    refine ⟨r, cur, rfl, h.fr r rfl, hh, hn, by omega, ?_⟩
    simp [World.cell?, hh, hc]
end Go.Proofs.Ytiefhmbffmphdaa
