/-
  No cell of these rows narrows 'for every input' (looked for: loops, veiled, ifaces, maps, wideKeys, modest, calm, conditions, laid).
  DERIVED. THE GIVEN ROWS OF THIS SEAT. 6 by the template 'for every input the law returns true; each argument reads behind the call as it read before'; 0 by the template 'total and deterministic' (their statements: YtebcienjeponmaaTotals.lean).
  GIVEN WITH THE SEED: the statements are not yours to turn. If you find one false, say at which input.
  Laid BY PROGRAM, IN A SANDBOX (cutbox-rows.mjs): the forced cells as the released guide's own fill.sh prints them over the translation 1c12992ab1307acb… (all of the seat's roots in one cut). By AI agents, Wed Nov 11 2026. No macro, syntax, notation, axiom, sorry.
-/
import Derived.Test.YtebcienjeponmaaChecked
import GoSem.Claim
import GoSem.ClaimJoined
import GoSem.ClaimMapViews
import Derived.JoinedTies
import Derived.KernelRfl
namespace Go.Proofs.Ytebcienjeponmaa
/- THE CELL 'sum', in the pinned program and in every row, IS THE sha256 OF THE DUMP (.gsa) THAT YtebcienjeponmaaProg.lean LOADS. Nothing in Lean hashes anything: it is a label: what it is worth is what the hold of that sum in a sandbox is worth. -/
noncomputable def Try.pinned : Pinned := { name := "ytebcienjeponmaa", sum := "1c12992ab1307acb5e86c70dedca83e9e3db394ff8781fed744499a723272fb1", checked := Try.checked }
namespace Rows
def none {H : Type} : Left H := { results := [], args := [] }

/-- 'anamorphlaw19.HomogChecks': WHATEVER THE INPUT: true; the input reads as it did. -/
def homogChecksSpec : ChangeSpec := { name := "homogChecks", fn := fun _ => fun
  | [d1, d2, d3] => { results := [.lit (.bool true)], args := [d1, d2, d3] }
  | _ => none }
def homogChecksRow : OpenClaim := { program := "ytebcienjeponmaa", sum := "1c12992ab1307acb5e86c70dedca83e9e3db394ff8781fed744499a723272fb1", func := "anamorph/anamorphlaw19.HomogChecks", spec := "homogChecks", inPlace := ["math/bits.Sub64", "math/bits.Add64"], unfollowed := true, recurses := true, named := ["math/bits.divideError", "math/bits.overflowError"], apart := false }
def HomogChecksSaid : Prop := homogChecksRow.holds Try.pinned (OpenSpec.ofChange homogChecksSpec)

/-- ITS FALSE NEIGHBOUR: 'it returns false'. Refute it at one input. -/
def homogChecksWrong : ChangeSpec := { name := "homogChecks", fn := fun _ => fun
  | [d1, d2, d3] => { results := [.lit (.bool false)], args := [d1, d2, d3] }
  | _ => none }
def HomogChecksWrongFalsely : Prop := homogChecksRow.holds Try.pinned (OpenSpec.ofChange homogChecksWrong)

/-- 'anamorphlaw19.HomogAsks': WHATEVER THE INPUT: true; the input reads as it did. -/
def homogAsksSpec : ChangeSpec := { name := "homogAsks", fn := fun _ => fun
  | [d1, d2, d3] => { results := [.lit (.bool true)], args := [d1, d2, d3] }
  | _ => none }
def homogAsksRow : OpenClaim := { program := "ytebcienjeponmaa", sum := "1c12992ab1307acb5e86c70dedca83e9e3db394ff8781fed744499a723272fb1", func := "anamorph/anamorphlaw19.HomogAsks", spec := "homogAsks", inPlace := ["math/bits.Sub64", "math/bits.Add64"], unfollowed := true, recurses := true, named := ["math/bits.divideError", "math/bits.overflowError"], apart := false }
def HomogAsksSaid : Prop := homogAsksRow.holds Try.pinned (OpenSpec.ofChange homogAsksSpec)

/-- ITS FALSE NEIGHBOUR: 'it returns false'. Refute it at one input. -/
def homogAsksWrong : ChangeSpec := { name := "homogAsks", fn := fun _ => fun
  | [d1, d2, d3] => { results := [.lit (.bool false)], args := [d1, d2, d3] }
  | _ => none }
def HomogAsksWrongFalsely : Prop := homogAsksRow.holds Try.pinned (OpenSpec.ofChange homogAsksWrong)

/-- 'anamorphlaw19.HomogSigns': WHATEVER THE INPUT: true; the input reads as it did. -/
def homogSignsSpec : ChangeSpec := { name := "homogSigns", fn := fun _ => fun
  | [d1, d2, d3] => { results := [.lit (.bool true)], args := [d1, d2, d3] }
  | _ => none }
def homogSignsRow : OpenClaim := { program := "ytebcienjeponmaa", sum := "1c12992ab1307acb5e86c70dedca83e9e3db394ff8781fed744499a723272fb1", func := "anamorph/anamorphlaw19.HomogSigns", spec := "homogSigns", inPlace := ["math/bits.Sub64", "math/bits.Add64"], unfollowed := true, recurses := true, named := ["math/bits.divideError", "math/bits.overflowError"], apart := false }
def HomogSignsSaid : Prop := homogSignsRow.holds Try.pinned (OpenSpec.ofChange homogSignsSpec)

/-- ITS FALSE NEIGHBOUR: 'it returns false'. Refute it at one input. -/
def homogSignsWrong : ChangeSpec := { name := "homogSigns", fn := fun _ => fun
  | [d1, d2, d3] => { results := [.lit (.bool false)], args := [d1, d2, d3] }
  | _ => none }
def HomogSignsWrongFalsely : Prop := homogSignsRow.holds Try.pinned (OpenSpec.ofChange homogSignsWrong)

/-- 'anamorphlaw19.HomogPlain': WHATEVER THE INPUT: true; the input reads as it did. -/
def homogPlainSpec : ChangeSpec := { name := "homogPlain", fn := fun _ => fun
  | [d1, d2, d3] => { results := [.lit (.bool true)], args := [d1, d2, d3] }
  | _ => none }
def homogPlainRow : OpenClaim := { program := "ytebcienjeponmaa", sum := "1c12992ab1307acb5e86c70dedca83e9e3db394ff8781fed744499a723272fb1", func := "anamorph/anamorphlaw19.HomogPlain", spec := "homogPlain", inPlace := ["math/bits.Sub64", "math/bits.Add64"], unfollowed := true, recurses := true, named := ["math/bits.divideError", "math/bits.overflowError"], apart := false }
def HomogPlainSaid : Prop := homogPlainRow.holds Try.pinned (OpenSpec.ofChange homogPlainSpec)

/-- ITS FALSE NEIGHBOUR: 'it returns false'. Refute it at one input. -/
def homogPlainWrong : ChangeSpec := { name := "homogPlain", fn := fun _ => fun
  | [d1, d2, d3] => { results := [.lit (.bool false)], args := [d1, d2, d3] }
  | _ => none }
def HomogPlainWrongFalsely : Prop := homogPlainRow.holds Try.pinned (OpenSpec.ofChange homogPlainWrong)

/-- 'anamorphlaw35.HddaWalks': WHATEVER THE INPUT: true; the input reads as it did. -/
def hddaWalksSpec : ChangeSpec := { name := "hddaWalks", fn := fun _ => fun
  | [d1, d2, d3] => { results := [.lit (.bool true)], args := [d1, d2, d3] }
  | _ => none }
def hddaWalksRow : OpenClaim := { program := "ytebcienjeponmaa", sum := "1c12992ab1307acb5e86c70dedca83e9e3db394ff8781fed744499a723272fb1", func := "anamorph/anamorphlaw35.HddaWalks", spec := "hddaWalks", inPlace := ["math/bits.Sub64", "math/bits.Add64"], unfollowed := true, recurses := true, named := ["math/bits.divideError", "math/bits.overflowError"], apart := false }
def HddaWalksSaid : Prop := hddaWalksRow.holds Try.pinned (OpenSpec.ofChange hddaWalksSpec)

/-- ITS FALSE NEIGHBOUR: 'it returns false'. Refute it at one input. -/
def hddaWalksWrong : ChangeSpec := { name := "hddaWalks", fn := fun _ => fun
  | [d1, d2, d3] => { results := [.lit (.bool false)], args := [d1, d2, d3] }
  | _ => none }
def HddaWalksWrongFalsely : Prop := hddaWalksRow.holds Try.pinned (OpenSpec.ofChange hddaWalksWrong)

/-- 'anamorphlaw35.HddaSame': WHATEVER THE INPUT: true; the input reads as it did. -/
def hddaSameSpec : ChangeSpec := { name := "hddaSame", fn := fun _ => fun
  | [d1, d2, d3] => { results := [.lit (.bool true)], args := [d1, d2, d3] }
  | _ => none }
def hddaSameRow : OpenClaim := { program := "ytebcienjeponmaa", sum := "1c12992ab1307acb5e86c70dedca83e9e3db394ff8781fed744499a723272fb1", func := "anamorph/anamorphlaw35.HddaSame", spec := "hddaSame", inPlace := ["math/bits.Sub64", "math/bits.Add64"], unfollowed := true, recurses := true, named := ["math/bits.divideError", "math/bits.overflowError"], apart := false }
def HddaSameSaid : Prop := hddaSameRow.holds Try.pinned (OpenSpec.ofChange hddaSameSpec)

/-- ITS FALSE NEIGHBOUR: 'it returns false'. Refute it at one input. -/
def hddaSameWrong : ChangeSpec := { name := "hddaSame", fn := fun _ => fun
  | [d1, d2, d3] => { results := [.lit (.bool false)], args := [d1, d2, d3] }
  | _ => none }
def HddaSameWrongFalsely : Prop := hddaSameRow.holds Try.pinned (OpenSpec.ofChange hddaSameWrong)

/- THE SECOND FORM. 'bulk': how many values and letters a reading holds, each counted each time it is reached (what is shared counts as often as it is met; a slice's spare places count too). A statement '..UptoSaid' is the law's where the arguments, and the package variables that the reading takes, are together of bulk at most 1048576: NARROWER than '..Said'. Prove '..Said' where nothing that the law and all that it calls make is longer than what came in: it says more and counts as full. Else prove '..UptoSaid'. A law counts once. -/
mutual
def uptoBulk {H : Type} : DataW H → Nat
  | .lit (.string bytes) => bytes.length + 1
  | .lit _ => 1
  | .nil => 1
  | .ptr d => uptoBulk d + 1
  | .slice elems spare => uptoBulkAll elems + uptoBulkAll spare + 1
  | .agg parts => uptoBulkAll parts + 1
  | .iface _ d => uptoBulk d + 1
  | .map entries => uptoBulkEntries entries + 1
  | .held _ => 1
def uptoBulkAll {H : Type} : List (DataW H) → Nat
  | [] => 0
  | d :: r => uptoBulk d + uptoBulkAll r
def uptoBulkEntries {H : Type} : List (Lit × DataW H) → Nat
  | [] => 0
  | x :: r => uptoBulkEntry x + uptoBulkEntries r
def uptoBulkEntry {H : Type} : Lit × DataW H → Nat
  | (.string bytes, d) => bytes.length + uptoBulk d + 1
  | (_, d) => uptoBulk d + 1
 end
def uptoSmall : (H : Type) → List (DataW H) → Bool := fun _ ds => decide (uptoBulkAll ds ≤ 1048576)
def OpenSpec.upto (s : _root_.Go.ChangeSpec) : _root_.Go.OpenSpec := { _root_.Go.OpenSpec.ofChange s with cond := some uptoSmall }

/-- 'anamorphlaw19.HomogChecks', WHERE WHAT IT READS IS OF BULK AT MOST 1048576: true; the input reads as it did. -/
def homogChecksUptoRow : OpenClaim := { program := "ytebcienjeponmaa", sum := "1c12992ab1307acb5e86c70dedca83e9e3db394ff8781fed744499a723272fb1", func := "anamorph/anamorphlaw19.HomogChecks", spec := "homogChecks", inPlace := ["math/bits.Sub64", "math/bits.Add64"], unfollowed := true, recurses := true, named := ["math/bits.divideError", "math/bits.overflowError"], apart := false, narrowed := true }
def HomogChecksUptoSaid : Prop := homogChecksUptoRow.holds Try.pinned (OpenSpec.upto homogChecksSpec)

/-- 'anamorphlaw19.HomogAsks', WHERE WHAT IT READS IS OF BULK AT MOST 1048576: true; the input reads as it did. -/
def homogAsksUptoRow : OpenClaim := { program := "ytebcienjeponmaa", sum := "1c12992ab1307acb5e86c70dedca83e9e3db394ff8781fed744499a723272fb1", func := "anamorph/anamorphlaw19.HomogAsks", spec := "homogAsks", inPlace := ["math/bits.Sub64", "math/bits.Add64"], unfollowed := true, recurses := true, named := ["math/bits.divideError", "math/bits.overflowError"], apart := false, narrowed := true }
def HomogAsksUptoSaid : Prop := homogAsksUptoRow.holds Try.pinned (OpenSpec.upto homogAsksSpec)

/-- 'anamorphlaw19.HomogSigns', WHERE WHAT IT READS IS OF BULK AT MOST 1048576: true; the input reads as it did. -/
def homogSignsUptoRow : OpenClaim := { program := "ytebcienjeponmaa", sum := "1c12992ab1307acb5e86c70dedca83e9e3db394ff8781fed744499a723272fb1", func := "anamorph/anamorphlaw19.HomogSigns", spec := "homogSigns", inPlace := ["math/bits.Sub64", "math/bits.Add64"], unfollowed := true, recurses := true, named := ["math/bits.divideError", "math/bits.overflowError"], apart := false, narrowed := true }
def HomogSignsUptoSaid : Prop := homogSignsUptoRow.holds Try.pinned (OpenSpec.upto homogSignsSpec)

/-- 'anamorphlaw19.HomogPlain', WHERE WHAT IT READS IS OF BULK AT MOST 1048576: true; the input reads as it did. -/
def homogPlainUptoRow : OpenClaim := { program := "ytebcienjeponmaa", sum := "1c12992ab1307acb5e86c70dedca83e9e3db394ff8781fed744499a723272fb1", func := "anamorph/anamorphlaw19.HomogPlain", spec := "homogPlain", inPlace := ["math/bits.Sub64", "math/bits.Add64"], unfollowed := true, recurses := true, named := ["math/bits.divideError", "math/bits.overflowError"], apart := false, narrowed := true }
def HomogPlainUptoSaid : Prop := homogPlainUptoRow.holds Try.pinned (OpenSpec.upto homogPlainSpec)

/-- 'anamorphlaw35.HddaWalks', WHERE WHAT IT READS IS OF BULK AT MOST 1048576: true; the input reads as it did. -/
def hddaWalksUptoRow : OpenClaim := { program := "ytebcienjeponmaa", sum := "1c12992ab1307acb5e86c70dedca83e9e3db394ff8781fed744499a723272fb1", func := "anamorph/anamorphlaw35.HddaWalks", spec := "hddaWalks", inPlace := ["math/bits.Sub64", "math/bits.Add64"], unfollowed := true, recurses := true, named := ["math/bits.divideError", "math/bits.overflowError"], apart := false, narrowed := true }
def HddaWalksUptoSaid : Prop := hddaWalksUptoRow.holds Try.pinned (OpenSpec.upto hddaWalksSpec)

/-- 'anamorphlaw35.HddaSame', WHERE WHAT IT READS IS OF BULK AT MOST 1048576: true; the input reads as it did. -/
def hddaSameUptoRow : OpenClaim := { program := "ytebcienjeponmaa", sum := "1c12992ab1307acb5e86c70dedca83e9e3db394ff8781fed744499a723272fb1", func := "anamorph/anamorphlaw35.HddaSame", spec := "hddaSame", inPlace := ["math/bits.Sub64", "math/bits.Add64"], unfollowed := true, recurses := true, named := ["math/bits.divideError", "math/bits.overflowError"], apart := false, narrowed := true }
def HddaSameUptoSaid : Prop := hddaSameUptoRow.holds Try.pinned (OpenSpec.upto hddaSameSpec)

end Rows
end Go.Proofs.Ytebcienjeponmaa
