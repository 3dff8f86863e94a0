/-
  No cell of these rows narrows 'for every input' (looked for: loops, veiled, ifaces, maps, wideKeys, modest, calm, conditions, laid).
  DERIVED. THE GIVEN ROWS OF THIS SEAT. 2 by the template 'for every input the law returns true; each argument reads behind the call as it read before'; 0 by the template 'total and deterministic' (their statements: YtiefhmbffmphdaaTotals.lean).
  GIVEN WITH THE SEED: the statements are not yours to turn. If you find one false, say at which input.
  Laid BY PROGRAM, IN A SANDBOX (cutbox-rows.mjs): the forced cells as the released guide's own fill.sh prints them over the translation fe5983ca0572217c… (all of the seat's roots in one cut). By AI agents, Wed Nov 11 2026. No macro, syntax, notation, axiom, sorry.
-/
import Derived.Test.YtiefhmbffmphdaaChecked
import GoSem.Claim
import GoSem.ClaimJoined
import GoSem.ClaimMapViews
import Derived.JoinedTies
import Derived.KernelRfl
namespace Go.Proofs.Ytiefhmbffmphdaa
/- THE CELL 'sum', in the pinned program and in every row, IS THE sha256 OF THE DUMP (.gsa) THAT YtiefhmbffmphdaaProg.lean LOADS. Nothing in Lean hashes anything: it is a label: what it is worth is what the hold of that sum in a sandbox is worth. -/
noncomputable def Try.pinned : Pinned := { name := "ytiefhmbffmphdaa", sum := "fe5983ca0572217c9b40fc903148247e37fec07c1552f297c8d391cea0e165db", checked := Try.checked }
namespace Rows
def none {H : Type} : Left H := { results := [], args := [] }

/-- 'anamorphlaw40.AgesSteps': WHATEVER THE INPUT: true; the input reads as it did. -/
def agesStepsSpec : ChangeSpec := { name := "agesSteps", fn := fun _ => fun
  | [d] => { results := [.lit (.bool true)], args := [d] }
  | _ => none }
def agesStepsRow : OpenClaim := { program := "ytiefhmbffmphdaa", sum := "fe5983ca0572217c9b40fc903148247e37fec07c1552f297c8d391cea0e165db", func := "anamorph/anamorphlaw40.AgesSteps", spec := "agesSteps", unfollowed := true, recurses := true, apart := false }
def AgesStepsSaid : Prop := agesStepsRow.holds Try.pinned (OpenSpec.ofChange agesStepsSpec)

/-- ITS FALSE NEIGHBOUR: 'it returns false'. Refute it at one input. -/
def agesStepsWrong : ChangeSpec := { name := "agesSteps", fn := fun _ => fun
  | [d] => { results := [.lit (.bool false)], args := [d] }
  | _ => none }
def AgesStepsWrongFalsely : Prop := agesStepsRow.holds Try.pinned (OpenSpec.ofChange agesStepsWrong)

/-- 'anamorphlaw40.AgesPops': WHATEVER THE INPUT: true; the input reads as it did. -/
def agesPopsSpec : ChangeSpec := { name := "agesPops", fn := fun _ => fun
  | [d] => { results := [.lit (.bool true)], args := [d] }
  | _ => none }
def agesPopsRow : OpenClaim := { program := "ytiefhmbffmphdaa", sum := "fe5983ca0572217c9b40fc903148247e37fec07c1552f297c8d391cea0e165db", func := "anamorph/anamorphlaw40.AgesPops", spec := "agesPops", unfollowed := true, recurses := true, apart := false }
def AgesPopsSaid : Prop := agesPopsRow.holds Try.pinned (OpenSpec.ofChange agesPopsSpec)

/-- ITS FALSE NEIGHBOUR: 'it returns false'. Refute it at one input. -/
def agesPopsWrong : ChangeSpec := { name := "agesPops", fn := fun _ => fun
  | [d] => { results := [.lit (.bool false)], args := [d] }
  | _ => none }
def AgesPopsWrongFalsely : Prop := agesPopsRow.holds Try.pinned (OpenSpec.ofChange agesPopsWrong)

/- THE SECOND FORM. 'bulk': how many values and letters a reading holds, each counted each time it is reached (what is shared counts as often as it is met; a slice's spare places count too). A statement '..UptoSaid' is the law's where the arguments, and the package variables that the reading takes, are together of bulk at most 1048576: NARROWER than '..Said'. Prove '..Said' where nothing that the law and all that it calls make is longer than what came in: it says more and counts as full. Else prove '..UptoSaid'. A law counts once. -/
mutual
def uptoBulk {H : Type} : DataW H → Nat
  | .lit (.string bytes) => bytes.length + 1
  | .lit _ => 1
  | .nil => 1
  | .ptr d => uptoBulk d + 1
  | .slice elems spare => uptoBulkAll elems + uptoBulkAll spare + 1
  | .agg parts => uptoBulkAll parts + 1
  | .iface _ d => uptoBulk d + 1
  | .map entries => uptoBulkEntries entries + 1
  | .held _ => 1
def uptoBulkAll {H : Type} : List (DataW H) → Nat
  | [] => 0
  | d :: r => uptoBulk d + uptoBulkAll r
def uptoBulkEntries {H : Type} : List (Lit × DataW H) → Nat
  | [] => 0
  | x :: r => uptoBulkEntry x + uptoBulkEntries r
def uptoBulkEntry {H : Type} : Lit × DataW H → Nat
  | (.string bytes, d) => bytes.length + uptoBulk d + 1
  | (_, d) => uptoBulk d + 1
 end
def uptoSmall : (H : Type) → List (DataW H) → Bool := fun _ ds => decide (uptoBulkAll ds ≤ 1048576)
def OpenSpec.upto (s : _root_.Go.ChangeSpec) : _root_.Go.OpenSpec := { _root_.Go.OpenSpec.ofChange s with cond := some uptoSmall }

/-- 'anamorphlaw40.AgesSteps', WHERE WHAT IT READS IS OF BULK AT MOST 1048576: true; the input reads as it did. -/
def agesStepsUptoRow : OpenClaim := { program := "ytiefhmbffmphdaa", sum := "fe5983ca0572217c9b40fc903148247e37fec07c1552f297c8d391cea0e165db", func := "anamorph/anamorphlaw40.AgesSteps", spec := "agesSteps", unfollowed := true, recurses := true, apart := false, narrowed := true }
def AgesStepsUptoSaid : Prop := agesStepsUptoRow.holds Try.pinned (OpenSpec.upto agesStepsSpec)

/-- 'anamorphlaw40.AgesPops', WHERE WHAT IT READS IS OF BULK AT MOST 1048576: true; the input reads as it did. -/
def agesPopsUptoRow : OpenClaim := { program := "ytiefhmbffmphdaa", sum := "fe5983ca0572217c9b40fc903148247e37fec07c1552f297c8d391cea0e165db", func := "anamorph/anamorphlaw40.AgesPops", spec := "agesPops", unfollowed := true, recurses := true, apart := false, narrowed := true }
def AgesPopsUptoSaid : Prop := agesPopsUptoRow.holds Try.pinned (OpenSpec.upto agesPopsSpec)

end Rows
end Go.Proofs.Ytiefhmbffmphdaa
