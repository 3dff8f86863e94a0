/-
  No cell of these rows narrows 'for every input' (looked for: loops, veiled, ifaces, maps, wideKeys, modest, calm, conditions, laid).
  DERIVED. THE GIVEN ROWS OF THIS SEAT. 3 by the template 'for every input the law returns true; each argument reads behind the call as it read before'; 0 by the template 'total and deterministic' (their statements: YtpcjoalbhicccaaTotals.lean).
  GIVEN WITH THE SEED: the statements are not yours to turn. If you find one false, say at which input.
  Laid BY PROGRAM, IN A SANDBOX (cutbox-rows.mjs): the forced cells as the released guide's own fill.sh prints them over the translation 99be616b0b4521a2… (all of the seat's roots in one cut). By AI agents, Wed Nov 11 2026. No macro, syntax, notation, axiom, sorry.
-/
import Derived.Test.YtpcjoalbhicccaaChecked
import GoSem.Claim
import GoSem.ClaimJoined
import GoSem.ClaimMapViews
import Derived.JoinedTies
import Derived.KernelRfl
namespace Go.Proofs.Ytpcjoalbhicccaa
/- THE CELL 'sum', in the pinned program and in every row, IS THE sha256 OF THE DUMP (.gsa) THAT YtpcjoalbhicccaaProg.lean LOADS. Nothing in Lean hashes anything: it is a label: what it is worth is what the hold of that sum in a sandbox is worth. -/
noncomputable def Try.pinned : Pinned := { name := "ytpcjoalbhicccaa", sum := "99be616b0b4521a2bd70c07d45038f751e62d71e6cbd3b0fa2c2a940edf816e6", checked := Try.checked }
namespace Rows
def none {H : Type} : Left H := { results := [], args := [] }

/-- 'anamorphlaw47.ThreePasses': WHATEVER THE INPUT: true; the input reads as it did. -/
def threePassesSpec : ChangeSpec := { name := "threePasses", fn := fun _ => fun
  | [d1, d2] => { results := [.lit (.bool true)], args := [d1, d2] }
  | _ => none }
def threePassesRow : OpenClaim := { program := "ytpcjoalbhicccaa", sum := "99be616b0b4521a2bd70c07d45038f751e62d71e6cbd3b0fa2c2a940edf816e6", func := "anamorph/anamorphlaw47.ThreePasses", spec := "threePasses", unfollowed := true, recurses := true, apart := false }
def ThreePassesSaid : Prop := threePassesRow.holds Try.pinned (OpenSpec.ofChange threePassesSpec)

/-- ITS FALSE NEIGHBOUR: 'it returns false'. Refute it at one input. -/
def threePassesWrong : ChangeSpec := { name := "threePasses", fn := fun _ => fun
  | [d1, d2] => { results := [.lit (.bool false)], args := [d1, d2] }
  | _ => none }
def ThreePassesWrongFalsely : Prop := threePassesRow.holds Try.pinned (OpenSpec.ofChange threePassesWrong)

/-- 'anamorphlaw47.ThreeWindows': WHATEVER THE INPUT: true; the input reads as it did. -/
def threeWindowsSpec : ChangeSpec := { name := "threeWindows", fn := fun _ => fun
  | [d] => { results := [.lit (.bool true)], args := [d] }
  | _ => none }
def threeWindowsRow : OpenClaim := { program := "ytpcjoalbhicccaa", sum := "99be616b0b4521a2bd70c07d45038f751e62d71e6cbd3b0fa2c2a940edf816e6", func := "anamorph/anamorphlaw47.ThreeWindows", spec := "threeWindows", unfollowed := true, recurses := true, apart := false }
def ThreeWindowsSaid : Prop := threeWindowsRow.holds Try.pinned (OpenSpec.ofChange threeWindowsSpec)

/-- ITS FALSE NEIGHBOUR: 'it returns false'. Refute it at one input. -/
def threeWindowsWrong : ChangeSpec := { name := "threeWindows", fn := fun _ => fun
  | [d] => { results := [.lit (.bool false)], args := [d] }
  | _ => none }
def ThreeWindowsWrongFalsely : Prop := threeWindowsRow.holds Try.pinned (OpenSpec.ofChange threeWindowsWrong)

/-- 'anamorphlaw47.ThreeWarps': WHATEVER THE INPUT: true; the input reads as it did. -/
def threeWarpsSpec : ChangeSpec := { name := "threeWarps", fn := fun _ => fun
  | [d1, d2] => { results := [.lit (.bool true)], args := [d1, d2] }
  | _ => none }
def threeWarpsRow : OpenClaim := { program := "ytpcjoalbhicccaa", sum := "99be616b0b4521a2bd70c07d45038f751e62d71e6cbd3b0fa2c2a940edf816e6", func := "anamorph/anamorphlaw47.ThreeWarps", spec := "threeWarps", unfollowed := true, recurses := true, apart := false }
def ThreeWarpsSaid : Prop := threeWarpsRow.holds Try.pinned (OpenSpec.ofChange threeWarpsSpec)

/-- ITS FALSE NEIGHBOUR: 'it returns false'. Refute it at one input. -/
def threeWarpsWrong : ChangeSpec := { name := "threeWarps", fn := fun _ => fun
  | [d1, d2] => { results := [.lit (.bool false)], args := [d1, d2] }
  | _ => none }
def ThreeWarpsWrongFalsely : Prop := threeWarpsRow.holds Try.pinned (OpenSpec.ofChange threeWarpsWrong)

/- THE SECOND FORM. 'bulk': how many values and letters a reading holds, each counted each time it is reached (what is shared counts as often as it is met; a slice's spare places count too). A statement '..UptoSaid' is the law's where the arguments, and the package variables that the reading takes, are together of bulk at most 1048576: NARROWER than '..Said'. Prove '..Said' where nothing that the law and all that it calls make is longer than what came in: it says more and counts as full. Else prove '..UptoSaid'. A law counts once. -/
mutual
def uptoBulk {H : Type} : DataW H → Nat
  | .lit (.string bytes) => bytes.length + 1
  | .lit _ => 1
  | .nil => 1
  | .ptr d => uptoBulk d + 1
  | .slice elems spare => uptoBulkAll elems + uptoBulkAll spare + 1
  | .agg parts => uptoBulkAll parts + 1
  | .iface _ d => uptoBulk d + 1
  | .map entries => uptoBulkEntries entries + 1
  | .held _ => 1
def uptoBulkAll {H : Type} : List (DataW H) → Nat
  | [] => 0
  | d :: r => uptoBulk d + uptoBulkAll r
def uptoBulkEntries {H : Type} : List (Lit × DataW H) → Nat
  | [] => 0
  | x :: r => uptoBulkEntry x + uptoBulkEntries r
def uptoBulkEntry {H : Type} : Lit × DataW H → Nat
  | (.string bytes, d) => bytes.length + uptoBulk d + 1
  | (_, d) => uptoBulk d + 1
 end
def uptoSmall : (H : Type) → List (DataW H) → Bool := fun _ ds => decide (uptoBulkAll ds ≤ 1048576)
def OpenSpec.upto (s : _root_.Go.ChangeSpec) : _root_.Go.OpenSpec := { _root_.Go.OpenSpec.ofChange s with cond := some uptoSmall }

/-- 'anamorphlaw47.ThreePasses', WHERE WHAT IT READS IS OF BULK AT MOST 1048576: true; the input reads as it did. -/
def threePassesUptoRow : OpenClaim := { program := "ytpcjoalbhicccaa", sum := "99be616b0b4521a2bd70c07d45038f751e62d71e6cbd3b0fa2c2a940edf816e6", func := "anamorph/anamorphlaw47.ThreePasses", spec := "threePasses", unfollowed := true, recurses := true, apart := false, narrowed := true }
def ThreePassesUptoSaid : Prop := threePassesUptoRow.holds Try.pinned (OpenSpec.upto threePassesSpec)

/-- 'anamorphlaw47.ThreeWindows', WHERE WHAT IT READS IS OF BULK AT MOST 1048576: true; the input reads as it did. -/
def threeWindowsUptoRow : OpenClaim := { program := "ytpcjoalbhicccaa", sum := "99be616b0b4521a2bd70c07d45038f751e62d71e6cbd3b0fa2c2a940edf816e6", func := "anamorph/anamorphlaw47.ThreeWindows", spec := "threeWindows", unfollowed := true, recurses := true, apart := false, narrowed := true }
def ThreeWindowsUptoSaid : Prop := threeWindowsUptoRow.holds Try.pinned (OpenSpec.upto threeWindowsSpec)

/-- 'anamorphlaw47.ThreeWarps', WHERE WHAT IT READS IS OF BULK AT MOST 1048576: true; the input reads as it did. -/
def threeWarpsUptoRow : OpenClaim := { program := "ytpcjoalbhicccaa", sum := "99be616b0b4521a2bd70c07d45038f751e62d71e6cbd3b0fa2c2a940edf816e6", func := "anamorph/anamorphlaw47.ThreeWarps", spec := "threeWarps", unfollowed := true, recurses := true, apart := false, narrowed := true }
def ThreeWarpsUptoSaid : Prop := threeWarpsUptoRow.holds Try.pinned (OpenSpec.upto threeWarpsSpec)

end Rows
end Go.Proofs.Ytpcjoalbhicccaa
