/- Several texts in one: The reference's mesh: cells, knots. The reference's mesh: a knot's numbers. -/
import Derived.Test.YtencbfmcmpmdnaaGreatDoorKC
section
set_option linter.unusedVariables false
namespace Go.Proofs.YtencbfmcmpmdnaaGreatDoor
open Go.RowKit
attribute [local go_sem high] run_maxM run_minM
end Go.Proofs.YtencbfmcmpmdnaaGreatDoor
end
section
set_option linter.unusedVariables false
namespace Go.Proofs.YtencbfmcmpmdnaaGreatDoor
open Go.RowKit
attribute [local go_sem high] run_maxM run_minM
/-- how many numbers a mesh has. -/
def meLn (l : List Int) : Int := 4 + 2 * (cf l 2 + 1) * (cf l 3 + 1)
theorem lget4 {l : List Int} {w : World} {B : Nat} {A : Option Addr} (hl : 4 ≤ l.length) (hr : Rd w B A (l.map (Value.int .i64))) : ∃ b o, A = some ⟨b, o, none⟩ ∧ b < B ∧ ∀ i, i < l.length → w.cell? ⟨b, o + i, none⟩ = some (.int .i64 (cf l i)) := by
  obtain ⟨b, o, rfl, hb, _⟩ := hr.get 0 (by rw [List.length_map]; omega)
  refine ⟨b, o, rfl, hb, fun i hi => ?_⟩
  obtain ⟨b', o', e, _, hc⟩ := hr.get i (by rw [List.length_map]; exact hi)
  injection e with e
  injection e with e1 e2
  subst e1 e2
  rw [hc, List.getElem_map]
  unfold cf
  rw [List.getD_eq_getElem?_getD, List.getElem?_eq_getElem hi]; rfl
theorem ln_K {l : List Int} (h : MeF l) (hl : (l.length : Int) = meLn l) : l.length = 4 + meK l * 2 ∧ meK l ≤ 4225 ∧ 1 ≤ meK l := by
  have h1 := h.nx
  have h2 := h.ny
  have m0 : 2 * 2 ≤ (cf l 2 + 1) * (cf l 3 + 1) := Int.mul_le_mul (by omega) (by omega) (by omega) (by omega)
  have m1 : (cf l 2 + 1) * (cf l 3 + 1) ≤ 65 * 65 := Int.mul_le_mul (by omega) (by omega) (by omega) (by omega)
  have e : 2 * (cf l 2 + 1) * (cf l 3 + 1) = 2 * ((cf l 2 + 1) * (cf l 3 + 1)) := Int.mul_assoc _ _ _
  unfold meLn at hl
  unfold meK
  omega
/-- a knot's number: its column (0) or its row (1). -/
def knW (l : List Int) (i k : Int) (t : Nat) : Int := cf l (4 + knJ l i k * 2 + t)
end Go.Proofs.YtencbfmcmpmdnaaGreatDoor
end
