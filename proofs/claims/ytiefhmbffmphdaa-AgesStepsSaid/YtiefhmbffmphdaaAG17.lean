/- ages: Touch of a thing that is there. -/
import Derived.Test.YtiefhmbffmphdaaAG16
set_option linter.unusedVariables false
namespace Go.Proofs.Ytiefhmbffmphdaa
open Go.RowKit
/-- A heap but for what stands at i, whose number has turned. -/
theorem dn_key {α : Type} {k k' : α → Int} {a : Nat → α} {n i : Nat} (h : Hp k a n) (hi : i < n) (hk : ∀ j, j < n → j ≠ i → k' (a j) = k (a j)) : Dn k' false a n i := by
  refine ⟨hi, ?_, ?_⟩
  · intro j j0 j1 hp hji
    have hne : j ≠ i := fun e => by cases hji e
    rw [hk j j1 hne, hk ((j - 1) / 2) (by omega) hp]
    exact h j j0 j1
  · intro i0 j j0 j1 hp
    rw [hk j j1 (by omega), hk ((i - 1) / 2) (by omega) (by omega)]
    have h1 := h j j0 j1
    have h2 := h i i0 hi
    rw [hp] at h1; omega
theorem Hw.row_ne {F : Nat → Prop} {w : World} {g : Nat} {A : Option Addr} {n c : Nat} {mv : Value} {now : Int} {a : Nat → Nat} {K W : Nat → Int} (h : Hw F w g A n c mv now a K W) : ∀ b, (Value.slice A n c).ownBlock = some b → b ≠ g ∧ ∀ j, j < n → b ≠ a j := fun b hb => by
  rcases h.row.2 with ⟨e, _⟩ | ⟨r, cap, cur, e, _, hh, _⟩
  · rw [e] at hb; cases hb
  · rw [e] at hb; injection hb with hb
    exact ⟨fun e2 => by rw [show r = g from hb.trans e2] at hh; exact absurd (bk_type h.hg hh) (by decide), fun j hj e2 => by rw [show r = a j from hb.trans e2] at hh; exact absurd (bk_type (h.th j hj) hh) (by decide)⟩
theorem Hw.ga {F : Nat → Prop} {w : World} {g : Nat} {A : Option Addr} {n c : Nat} {mv : Value} {now : Int} {a : Nat → Nat} {K W : Nat → Int} (h : Hw F w g A n c mv now a K W) (j : Nat) (hj : j < n) : a j ≠ g := fun e => by
  have h1 := h.th j hj; rw [e] at h1; exact absurd (bk_type h1 h.hg) (by decide)
/-- now is stored anew. -/
theorem Hw.tick {F : Nat → Prop} {w : World} {g : Nat} {A : Option Addr} {n c : Nat} {mv : Value} {now : Int} {a : Nat → Nat} {K W : Nat → Int} (h : Hw F w g A n c mv now a K W) (z : Int) : Hw F (w.setCell ⟨g, 2, none⟩ (.int .i64 z)) g A n c mv z a K W :=
  ⟨h.hg.set 2 _, own_far h.row _ _ (fun b hb => (h.row_ne b hb).1), fun j hj => (h.th j hj).far (by simpa using h.ga j hj) _, h.inj, h.fg, h.fr, h.ft⟩
/-- A thing's time is stored anew. -/
theorem Hw.time {F : Nat → Prop} {w : World} {g : Nat} {A : Option Addr} {n c : Nat} {mv : Value} {now : Int} {a : Nat → Nat} {K W : Nat → Int} (h : Hw F w g A n c mv now a K W) (i : Nat) (hi : i < n) (z : Int) : Hw F (w.setCell ⟨a i, 1, none⟩ (.int .i64 z)) g A n c mv now a K (fun x => if x = a i then z else W x) := by
  refine ⟨h.hg.far (by simpa using (h.ga i hi).symm) _, own_far h.row _ _ (fun b hb => (h.row_ne b hb).2 i hi), ?_, h.inj, h.fg, h.fr, h.ft⟩
  intro j hj
  show Bk _ _ _ #[.int .i64 (K (a j)), .int .i64 (if a j = a i then z else W (a j)), .int .i64 (j : Nat)]
  by_cases e : j = i
  · rw [e, if_pos rfl]; exact (h.th i hi).set 1 _
  · have hne : a j ≠ a i := fun e2 => e (h.inj j i hj hi e2)
    rw [if_neg hne]; exact (h.th j hj).far (by simpa using hne) _
end Go.Proofs.Ytiefhmbffmphdaa
