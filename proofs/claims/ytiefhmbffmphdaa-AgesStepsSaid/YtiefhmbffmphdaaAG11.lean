/- ages: an Ages as a whole: its heap, its map, what it tells. -/
import Derived.Test.YtiefhmbffmphdaaAG10
set_option linter.unusedVariables false
namespace Go.Proofs.Ytiefhmbffmphdaa
open Go.RowKit
/-- The map of an Ages: nil, or one that holds the things by their keys. -/
def MapIs (F Fh : Nat → Prop) (w : World) (mv : Value) (cnt : Nat) (M : Int → Option Nat) : Prop :=
  (mv = .map none ∧ M = fun _ => none) ∨ ∃ mb, mv = .map (some mb) ∧ F mb ∧ ¬ Fh mb ∧ Mp Try.prog 3 w mb cnt M
theorem MapIs.look {F Fh : Nat → Prop} {w : World} {mv : Value} {cnt : Nat} {M : Int → Option Nat} (h : MapIs F Fh w mv cnt M) {k : Int} (hk : -9223372036854775808 ≤ k ∧ k ≤ 9223372036854775807) :
    (Instr.lookup 27 mv (.int .i64 k) false).run Try.prog w = .ok (ptV (M k)) w := by
  have hz : (zeroValue 45).run Try.prog w = .ok (.pointer none) w := by
    have hzz : Try.t45.zero = some (.pointer none) := by kernel_rfl
    simp [zeroValue, hzz]
  rcases h with ⟨rfl, rfl⟩ | ⟨mb, rfl, _, _, h⟩
  · rw [Maps.look_nil false (Maps.int_keyed Try.underlying3) Try.underlying27 hz (Maps.keyOf_int_mk Try.underlying3 (lit_ok hk))]
    rfl
  · exact h.look Try.underlying3 Try.underlying27 hz hk
/-- An Ages at g that holds m, the one touched longest ago first. -/
structure Ag (F : Nat → Prop) (w : World) (g : Nat) (now : Int) (m : List Int) : Prop where
  ex : ∃ (A : Option Addr) (n c cnt : Nat) (mv : Value) (a : Nat → Nat) (K W : Nat → Int) (s : List Nat) (M : Int → Option Nat) (Fh : Nat → Prop),
    Hw Fh w g A n c mv now a K W ∧ Hp W a n ∧ AgS K W now a n s ∧ s.map K = m ∧ (∀ i, Fh i → F i) ∧ MapIs F Fh w mv cnt M ∧ (cnt : Int) ≤ now ∧ (∀ k b, M k = some b ↔ b ∈ s ∧ K b = k) ∧ (n : Int) ≤ now
  lt : ∀ i, F i → i < w.heap.size
end Go.Proofs.Ytiefhmbffmphdaa
