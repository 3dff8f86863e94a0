/- xform: New and At of the kinds 2 to 6, by the package's own. (Printed by wip/tools/genpx.py.) -/
import Derived.Test.YtencbfmcmpmdnaaGreatDoorNP
import Derived.Test.YtencbfmcmpmdnaaGreatDoorK9
import Derived.Laws.EntriesVeiled
set_option linter.unusedVariables false
namespace Go.Proofs.YtencbfmcmpmdnaaGreatDoor
open Go.RowKit
/-- What a package's At answers of a map: wherever the blocks from lo to hi lie as in w. -/
def AtFn (f : FuncId) (lo hi : Nat) (w : World) (p : Option Addr) (F G E : Int → Int → Int → Int) : Prop :=
  ∀ w' : World, hi ≤ w'.heap.size → (∀ i, lo ≤ i → i < hi → w'.heap[i]? = w.heap[i]?) → ∀ x y d, Calls Tryz.prog f #[.pointer p, .int .i64 x, .int .i64 y, .int .i64 d] w' fun e w'' => e = .returned (.tuple #[.int .i64 (F x y d), .int .i64 (G x y d), .int .i64 (E x y d)]) ∧ Below w'.heap.size w' w''
theorem newMp_aff (l : List Int) (A : Option Addr) (n cp : Nat) (W H : Int) (w : World) (hl : l.length = n) (hr : Rd w w.heap.size A (l.map (Value.int .i64))) (hs : szH W H = true) :
    NewMp 1 A n cp W H w (afC l) (afX l) (afY l) afE := by
  intro w' hb
  refine (xnew_aff l A n cp W H w' hl ((hr.below hb).more hb.size) hs).mono ?_
  rintro e w'' ⟨p, rfl, h1, h2, hb2⟩
  refine ⟨p, rfl, h1, fun hz => ?_, hb2⟩
  obtain ⟨q, g, rfl, hq, hM, hg, hG⟩ := h2 hz
  exact ⟨trivial, q, rfl, hq, _, hM⟩
/-- What a package's New leaves. -/
def PkR (f : FuncId) (C : Int) (F G E : Int → Int → Int → Int) (w w' : World) (p : Option Addr) : Prop := C = 0 → ∃ g, p = some ⟨g, 0, none⟩ ∧ w.heap.size ≤ g ∧ AtFn f w.heap.size w'.heap.size w' p F G E
end Go.Proofs.YtencbfmcmpmdnaaGreatDoor
