/-
  No cell of these rows narrows 'for every input' (looked for: loops, veiled, ifaces, maps, wideKeys, modest, calm, conditions, laid).
  DERIVED. THE GIVEN ROWS OF THIS SEAT. 6 by the template 'for every input the law returns true; each argument reads behind the call as it read before'; 0 by the template 'total and deterministic' (their statements: YtjbelhpgbcnlmaaGreatTotals.lean).
  GIVEN WITH THE SEED: the statements are not yours to turn. If you find one false, say at which input.
  Laid BY PROGRAM, IN A SANDBOX (cutbox-rows.mjs): the forced cells as the released guide's own fill.sh prints them over the translation 5348fc05ced75f04… (all of the seat's roots in one cut). By AI agents, Wed Nov 11 2026. No macro, syntax, notation, axiom, sorry.
-/
import Derived.Test.YtjbelhpgbcnlmaaGreatChecked
import GoSem.Claim
import GoSem.ClaimJoined
import GoSem.ClaimMapViews
import Derived.JoinedTies
import Derived.KernelRfl
namespace Go.Proofs.YtjbelhpgbcnlmaaGreat
/- THE CELL 'sum', in the pinned program and in every row, IS THE sha256 OF THE DUMP (.gsa) THAT YtjbelhpgbcnlmaaGreatProg.lean LOADS. Nothing in Lean hashes anything: it is a label: what it is worth is what the hold of that sum in a sandbox is worth. -/
noncomputable def Tryz.pinned : Pinned := { name := "ytjbelhpgbcnlmaagreat", sum := "5348fc05ced75f04a0553dbfa699f54265267d59963fdc263000ae009c352376", checked := Tryz.checked }
namespace Rows
def none {H : Type} : Left H := { results := [], args := [] }

/-- 'anamorphlaw33.SamplePixels': WHATEVER THE INPUT: true; the input reads as it did. -/
def samplePixelsSpec : ChangeSpec := { name := "samplePixels", fn := fun _ => fun
  | [d1, d2, d3] => { results := [.lit (.bool true)], args := [d1, d2, d3] }
  | _ => none }
def samplePixelsRow : OpenClaim := { program := "ytjbelhpgbcnlmaagreat", sum := "5348fc05ced75f04a0553dbfa699f54265267d59963fdc263000ae009c352376", func := "anamorph/anamorphlaw33.SamplePixels", spec := "samplePixels", inPlace := ["math/bits.Sub64", "math/bits.Add64"], unfollowed := true, recurses := true, named := ["math/bits.divideError", "math/bits.overflowError"], apart := false }
def SamplePixelsSaid : Prop := samplePixelsRow.holds Tryz.pinned (OpenSpec.ofChange samplePixelsSpec)

/-- ITS FALSE NEIGHBOUR: 'it returns false'. Refute it at one input. -/
def samplePixelsWrong : ChangeSpec := { name := "samplePixels", fn := fun _ => fun
  | [d1, d2, d3] => { results := [.lit (.bool false)], args := [d1, d2, d3] }
  | _ => none }
def SamplePixelsWrongFalsely : Prop := samplePixelsRow.holds Tryz.pinned (OpenSpec.ofChange samplePixelsWrong)

/-- 'anamorphlaw45.WholeWarps': WHATEVER THE INPUT: true; the input reads as it did. -/
def wholeWarpsSpec : ChangeSpec := { name := "wholeWarps", fn := fun _ => fun
  | [d1, d2] => { results := [.lit (.bool true)], args := [d1, d2] }
  | _ => none }
def wholeWarpsRow : OpenClaim := { program := "ytjbelhpgbcnlmaagreat", sum := "5348fc05ced75f04a0553dbfa699f54265267d59963fdc263000ae009c352376", func := "anamorph/anamorphlaw45.WholeWarps", spec := "wholeWarps", inPlace := ["math/bits.Sub64", "math/bits.Add64"], unfollowed := true, recurses := true, named := ["math/bits.divideError", "math/bits.overflowError"], apart := false }
def WholeWarpsSaid : Prop := wholeWarpsRow.holds Tryz.pinned (OpenSpec.ofChange wholeWarpsSpec)

/-- ITS FALSE NEIGHBOUR: 'it returns false'. Refute it at one input. -/
def wholeWarpsWrong : ChangeSpec := { name := "wholeWarps", fn := fun _ => fun
  | [d1, d2] => { results := [.lit (.bool false)], args := [d1, d2] }
  | _ => none }
def WholeWarpsWrongFalsely : Prop := wholeWarpsRow.holds Tryz.pinned (OpenSpec.ofChange wholeWarpsWrong)

/-- 'anamorphlaw45.WholeMoves': WHATEVER THE INPUT: true; the input reads as it did. -/
def wholeMovesSpec : ChangeSpec := { name := "wholeMoves", fn := fun _ => fun
  | [d1, d2, d3] => { results := [.lit (.bool true)], args := [d1, d2, d3] }
  | _ => none }
def wholeMovesRow : OpenClaim := { program := "ytjbelhpgbcnlmaagreat", sum := "5348fc05ced75f04a0553dbfa699f54265267d59963fdc263000ae009c352376", func := "anamorph/anamorphlaw45.WholeMoves", spec := "wholeMoves", inPlace := ["math/bits.Sub64", "math/bits.Add64"], unfollowed := true, recurses := true, named := ["math/bits.divideError", "math/bits.overflowError"], apart := false }
def WholeMovesSaid : Prop := wholeMovesRow.holds Tryz.pinned (OpenSpec.ofChange wholeMovesSpec)

/-- ITS FALSE NEIGHBOUR: 'it returns false'. Refute it at one input. -/
def wholeMovesWrong : ChangeSpec := { name := "wholeMoves", fn := fun _ => fun
  | [d1, d2, d3] => { results := [.lit (.bool false)], args := [d1, d2, d3] }
  | _ => none }
def WholeMovesWrongFalsely : Prop := wholeMovesRow.holds Tryz.pinned (OpenSpec.ofChange wholeMovesWrong)

/-- 'anamorphlaw45.WholeColours': WHATEVER THE INPUT: true; the input reads as it did. -/
def wholeColoursSpec : ChangeSpec := { name := "wholeColours", fn := fun _ => fun
  | [d1, d2] => { results := [.lit (.bool true)], args := [d1, d2] }
  | _ => none }
def wholeColoursRow : OpenClaim := { program := "ytjbelhpgbcnlmaagreat", sum := "5348fc05ced75f04a0553dbfa699f54265267d59963fdc263000ae009c352376", func := "anamorph/anamorphlaw45.WholeColours", spec := "wholeColours", inPlace := ["math/bits.Sub64", "math/bits.Add64"], unfollowed := true, recurses := true, named := ["math/bits.divideError", "math/bits.overflowError"], apart := false }
def WholeColoursSaid : Prop := wholeColoursRow.holds Tryz.pinned (OpenSpec.ofChange wholeColoursSpec)

/-- ITS FALSE NEIGHBOUR: 'it returns false'. Refute it at one input. -/
def wholeColoursWrong : ChangeSpec := { name := "wholeColours", fn := fun _ => fun
  | [d1, d2] => { results := [.lit (.bool false)], args := [d1, d2] }
  | _ => none }
def WholeColoursWrongFalsely : Prop := wholeColoursRow.holds Tryz.pinned (OpenSpec.ofChange wholeColoursWrong)

/-- 'anamorphlaw45.WholeParts': WHATEVER THE INPUT: true; the input reads as it did. -/
def wholePartsSpec : ChangeSpec := { name := "wholeParts", fn := fun _ => fun
  | [d1, d2, d3] => { results := [.lit (.bool true)], args := [d1, d2, d3] }
  | _ => none }
def wholePartsRow : OpenClaim := { program := "ytjbelhpgbcnlmaagreat", sum := "5348fc05ced75f04a0553dbfa699f54265267d59963fdc263000ae009c352376", func := "anamorph/anamorphlaw45.WholeParts", spec := "wholeParts", inPlace := ["math/bits.Sub64", "math/bits.Add64"], unfollowed := true, recurses := true, named := ["math/bits.divideError", "math/bits.overflowError"], apart := false }
def WholePartsSaid : Prop := wholePartsRow.holds Tryz.pinned (OpenSpec.ofChange wholePartsSpec)

/-- ITS FALSE NEIGHBOUR: 'it returns false'. Refute it at one input. -/
def wholePartsWrong : ChangeSpec := { name := "wholeParts", fn := fun _ => fun
  | [d1, d2, d3] => { results := [.lit (.bool false)], args := [d1, d2, d3] }
  | _ => none }
def WholePartsWrongFalsely : Prop := wholePartsRow.holds Tryz.pinned (OpenSpec.ofChange wholePartsWrong)

/-- 'anamorphlaw47.ThreeSame': WHATEVER THE INPUT: true; the input reads as it did. -/
def threeSameSpec : ChangeSpec := { name := "threeSame", fn := fun _ => fun
  | [d1, d2] => { results := [.lit (.bool true)], args := [d1, d2] }
  | _ => none }
def threeSameRow : OpenClaim := { program := "ytjbelhpgbcnlmaagreat", sum := "5348fc05ced75f04a0553dbfa699f54265267d59963fdc263000ae009c352376", func := "anamorph/anamorphlaw47.ThreeSame", spec := "threeSame", inPlace := ["math/bits.Sub64", "math/bits.Add64"], unfollowed := true, recurses := true, named := ["math/bits.divideError", "math/bits.overflowError"], apart := false }
def ThreeSameSaid : Prop := threeSameRow.holds Tryz.pinned (OpenSpec.ofChange threeSameSpec)

/-- ITS FALSE NEIGHBOUR: 'it returns false'. Refute it at one input. -/
def threeSameWrong : ChangeSpec := { name := "threeSame", fn := fun _ => fun
  | [d1, d2] => { results := [.lit (.bool false)], args := [d1, d2] }
  | _ => none }
def ThreeSameWrongFalsely : Prop := threeSameRow.holds Tryz.pinned (OpenSpec.ofChange threeSameWrong)

/- THE SECOND FORM. 'bulk': how many values and letters a reading holds, each counted each time it is reached (what is shared counts as often as it is met; a slice's spare places count too). A statement '..UptoSaid' is the law's where the arguments, and the package variables that the reading takes, are together of bulk at most 1048576: NARROWER than '..Said'. Prove '..Said' where nothing that the law and all that it calls make is longer than what came in: it says more and counts as full. Else prove '..UptoSaid'. A law counts once. -/
mutual
def uptoBulk {H : Type} : DataW H → Nat
  | .lit (.string bytes) => bytes.length + 1
  | .lit _ => 1
  | .nil => 1
  | .ptr d => uptoBulk d + 1
  | .slice elems spare => uptoBulkAll elems + uptoBulkAll spare + 1
  | .agg parts => uptoBulkAll parts + 1
  | .iface _ d => uptoBulk d + 1
  | .map entries => uptoBulkEntries entries + 1
  | .held _ => 1
def uptoBulkAll {H : Type} : List (DataW H) → Nat
  | [] => 0
  | d :: r => uptoBulk d + uptoBulkAll r
def uptoBulkEntries {H : Type} : List (Lit × DataW H) → Nat
  | [] => 0
  | x :: r => uptoBulkEntry x + uptoBulkEntries r
def uptoBulkEntry {H : Type} : Lit × DataW H → Nat
  | (.string bytes, d) => bytes.length + uptoBulk d + 1
  | (_, d) => uptoBulk d + 1
 end
def uptoSmall : (H : Type) → List (DataW H) → Bool := fun _ ds => decide (uptoBulkAll ds ≤ 1048576)
def OpenSpec.upto (s : _root_.Go.ChangeSpec) : _root_.Go.OpenSpec := { _root_.Go.OpenSpec.ofChange s with cond := some uptoSmall }

/-- 'anamorphlaw33.SamplePixels', WHERE WHAT IT READS IS OF BULK AT MOST 1048576: true; the input reads as it did. -/
def samplePixelsUptoRow : OpenClaim := { program := "ytjbelhpgbcnlmaagreat", sum := "5348fc05ced75f04a0553dbfa699f54265267d59963fdc263000ae009c352376", func := "anamorph/anamorphlaw33.SamplePixels", spec := "samplePixels", inPlace := ["math/bits.Sub64", "math/bits.Add64"], unfollowed := true, recurses := true, named := ["math/bits.divideError", "math/bits.overflowError"], apart := false, narrowed := true }
def SamplePixelsUptoSaid : Prop := samplePixelsUptoRow.holds Tryz.pinned (OpenSpec.upto samplePixelsSpec)

/-- 'anamorphlaw45.WholeWarps', WHERE WHAT IT READS IS OF BULK AT MOST 1048576: true; the input reads as it did. -/
def wholeWarpsUptoRow : OpenClaim := { program := "ytjbelhpgbcnlmaagreat", sum := "5348fc05ced75f04a0553dbfa699f54265267d59963fdc263000ae009c352376", func := "anamorph/anamorphlaw45.WholeWarps", spec := "wholeWarps", inPlace := ["math/bits.Sub64", "math/bits.Add64"], unfollowed := true, recurses := true, named := ["math/bits.divideError", "math/bits.overflowError"], apart := false, narrowed := true }
def WholeWarpsUptoSaid : Prop := wholeWarpsUptoRow.holds Tryz.pinned (OpenSpec.upto wholeWarpsSpec)

/-- 'anamorphlaw45.WholeMoves', WHERE WHAT IT READS IS OF BULK AT MOST 1048576: true; the input reads as it did. -/
def wholeMovesUptoRow : OpenClaim := { program := "ytjbelhpgbcnlmaagreat", sum := "5348fc05ced75f04a0553dbfa699f54265267d59963fdc263000ae009c352376", func := "anamorph/anamorphlaw45.WholeMoves", spec := "wholeMoves", inPlace := ["math/bits.Sub64", "math/bits.Add64"], unfollowed := true, recurses := true, named := ["math/bits.divideError", "math/bits.overflowError"], apart := false, narrowed := true }
def WholeMovesUptoSaid : Prop := wholeMovesUptoRow.holds Tryz.pinned (OpenSpec.upto wholeMovesSpec)

/-- 'anamorphlaw45.WholeColours', WHERE WHAT IT READS IS OF BULK AT MOST 1048576: true; the input reads as it did. -/
def wholeColoursUptoRow : OpenClaim := { program := "ytjbelhpgbcnlmaagreat", sum := "5348fc05ced75f04a0553dbfa699f54265267d59963fdc263000ae009c352376", func := "anamorph/anamorphlaw45.WholeColours", spec := "wholeColours", inPlace := ["math/bits.Sub64", "math/bits.Add64"], unfollowed := true, recurses := true, named := ["math/bits.divideError", "math/bits.overflowError"], apart := false, narrowed := true }
def WholeColoursUptoSaid : Prop := wholeColoursUptoRow.holds Tryz.pinned (OpenSpec.upto wholeColoursSpec)

/-- 'anamorphlaw45.WholeParts', WHERE WHAT IT READS IS OF BULK AT MOST 1048576: true; the input reads as it did. -/
def wholePartsUptoRow : OpenClaim := { program := "ytjbelhpgbcnlmaagreat", sum := "5348fc05ced75f04a0553dbfa699f54265267d59963fdc263000ae009c352376", func := "anamorph/anamorphlaw45.WholeParts", spec := "wholeParts", inPlace := ["math/bits.Sub64", "math/bits.Add64"], unfollowed := true, recurses := true, named := ["math/bits.divideError", "math/bits.overflowError"], apart := false, narrowed := true }
def WholePartsUptoSaid : Prop := wholePartsUptoRow.holds Tryz.pinned (OpenSpec.upto wholePartsSpec)

/-- 'anamorphlaw47.ThreeSame', WHERE WHAT IT READS IS OF BULK AT MOST 1048576: true; the input reads as it did. -/
def threeSameUptoRow : OpenClaim := { program := "ytjbelhpgbcnlmaagreat", sum := "5348fc05ced75f04a0553dbfa699f54265267d59963fdc263000ae009c352376", func := "anamorph/anamorphlaw47.ThreeSame", spec := "threeSame", inPlace := ["math/bits.Sub64", "math/bits.Add64"], unfollowed := true, recurses := true, named := ["math/bits.divideError", "math/bits.overflowError"], apart := false, narrowed := true }
def ThreeSameUptoSaid : Prop := threeSameUptoRow.holds Tryz.pinned (OpenSpec.upto threeSameSpec)

end Rows
end Go.Proofs.YtjbelhpgbcnlmaaGreat
