/-
  No cell of these rows narrows 'for every input' (looked for: loops, veiled, ifaces, maps, wideKeys, modest, calm, conditions, laid).
  DERIVED. THE GIVEN ROWS OF THIS SEAT. 12 by the template 'for every input the law returns true; each argument reads behind the call as it read before'; 0 by the template 'total and deterministic' (their statements: YtlbiiljncacdoaaGreatTotals.lean).
  GIVEN WITH THE SEED: the statements are not yours to turn. If you find one false, say at which input.
  Laid BY PROGRAM, IN A SANDBOX (cutbox-rows.mjs): the forced cells as the released guide's own fill.sh prints them over the translation 00b316e37f751bbb… (all of the seat's roots in one cut). By AI agents, Wed Nov 11 2026. No macro, syntax, notation, axiom, sorry.
-/
import Derived.Test.YtlbiiljncacdoaaGreatChecked
import GoSem.Claim
import GoSem.ClaimJoined
import GoSem.ClaimMapViews
import Derived.JoinedTies
import Derived.KernelRfl
namespace Go.Proofs.YtlbiiljncacdoaaGreat
/- THE CELL 'sum', in the pinned program and in every row, IS THE sha256 OF THE DUMP (.gsa) THAT YtlbiiljncacdoaaGreatProg.lean LOADS. Nothing in Lean hashes anything: it is a label: what it is worth is what the hold of that sum in a sandbox is worth. -/
noncomputable def Tryz.pinned : Pinned := { name := "ytlbiiljncacdoaagreat", sum := "00b316e37f751bbb0781c4a5da772b438dc16be89144022e3368aa211fc5a579", checked := Tryz.checked }
namespace Rows
def none {H : Type} : Left H := { results := [], args := [] }

/-- 'anamorphlaw24.XformWhole': WHATEVER THE INPUT: true; the input reads as it did. -/
def xformWholeSpec : ChangeSpec := { name := "xformWhole", fn := fun _ => fun
  | [d1, d2, d3] => { results := [.lit (.bool true)], args := [d1, d2, d3] }
  | _ => none }
def xformWholeRow : OpenClaim := { program := "ytlbiiljncacdoaagreat", sum := "00b316e37f751bbb0781c4a5da772b438dc16be89144022e3368aa211fc5a579", func := "anamorph/anamorphlaw24.XformWhole", spec := "xformWhole", inPlace := ["math/bits.Sub64", "math/bits.Add64"], unfollowed := true, recurses := true, named := ["math/bits.divideError", "math/bits.overflowError"], apart := false }
def XformWholeSaid : Prop := xformWholeRow.holds Tryz.pinned (OpenSpec.ofChange xformWholeSpec)

/-- ITS FALSE NEIGHBOUR: 'it returns false'. Refute it at one input. -/
def xformWholeWrong : ChangeSpec := { name := "xformWhole", fn := fun _ => fun
  | [d1, d2, d3] => { results := [.lit (.bool false)], args := [d1, d2, d3] }
  | _ => none }
def XformWholeWrongFalsely : Prop := xformWholeRow.holds Tryz.pinned (OpenSpec.ofChange xformWholeWrong)

/-- 'anamorphlaw24.XformAsks': WHATEVER THE INPUT: true; the input reads as it did. -/
def xformAsksSpec : ChangeSpec := { name := "xformAsks", fn := fun _ => fun
  | [d1, d2, d3] => { results := [.lit (.bool true)], args := [d1, d2, d3] }
  | _ => none }
def xformAsksRow : OpenClaim := { program := "ytlbiiljncacdoaagreat", sum := "00b316e37f751bbb0781c4a5da772b438dc16be89144022e3368aa211fc5a579", func := "anamorph/anamorphlaw24.XformAsks", spec := "xformAsks", inPlace := ["math/bits.Sub64", "math/bits.Add64"], unfollowed := true, recurses := true, named := ["math/bits.divideError", "math/bits.overflowError"], apart := false }
def XformAsksSaid : Prop := xformAsksRow.holds Tryz.pinned (OpenSpec.ofChange xformAsksSpec)

/-- ITS FALSE NEIGHBOUR: 'it returns false'. Refute it at one input. -/
def xformAsksWrong : ChangeSpec := { name := "xformAsks", fn := fun _ => fun
  | [d1, d2, d3] => { results := [.lit (.bool false)], args := [d1, d2, d3] }
  | _ => none }
def XformAsksWrongFalsely : Prop := xformAsksRow.holds Tryz.pinned (OpenSpec.ofChange xformAsksWrong)

/-- 'anamorphlaw24.XformIn': WHATEVER THE INPUT: true; the input reads as it did. -/
def xformInSpec : ChangeSpec := { name := "xformIn", fn := fun _ => fun
  | [d1, d2, d3] => { results := [.lit (.bool true)], args := [d1, d2, d3] }
  | _ => none }
def xformInRow : OpenClaim := { program := "ytlbiiljncacdoaagreat", sum := "00b316e37f751bbb0781c4a5da772b438dc16be89144022e3368aa211fc5a579", func := "anamorph/anamorphlaw24.XformIn", spec := "xformIn", inPlace := ["math/bits.Sub64", "math/bits.Add64"], unfollowed := true, recurses := true, named := ["math/bits.divideError", "math/bits.overflowError"], apart := false }
def XformInSaid : Prop := xformInRow.holds Tryz.pinned (OpenSpec.ofChange xformInSpec)

/-- ITS FALSE NEIGHBOUR: 'it returns false'. Refute it at one input. -/
def xformInWrong : ChangeSpec := { name := "xformIn", fn := fun _ => fun
  | [d1, d2, d3] => { results := [.lit (.bool false)], args := [d1, d2, d3] }
  | _ => none }
def XformInWrongFalsely : Prop := xformInRow.holds Tryz.pinned (OpenSpec.ofChange xformInWrong)

/-- 'anamorphlaw32.LevelReaches': WHATEVER THE INPUT: true; the input reads as it did. -/
def levelReachesSpec : ChangeSpec := { name := "levelReaches", fn := fun _ => fun
  | [d1, d2, d3] => { results := [.lit (.bool true)], args := [d1, d2, d3] }
  | _ => none }
def levelReachesRow : OpenClaim := { program := "ytlbiiljncacdoaagreat", sum := "00b316e37f751bbb0781c4a5da772b438dc16be89144022e3368aa211fc5a579", func := "anamorph/anamorphlaw32.LevelReaches", spec := "levelReaches", inPlace := ["math/bits.Sub64", "math/bits.Add64"], unfollowed := true, recurses := true, named := ["math/bits.divideError", "math/bits.overflowError"], apart := false }
def LevelReachesSaid : Prop := levelReachesRow.holds Tryz.pinned (OpenSpec.ofChange levelReachesSpec)

/-- ITS FALSE NEIGHBOUR: 'it returns false'. Refute it at one input. -/
def levelReachesWrong : ChangeSpec := { name := "levelReaches", fn := fun _ => fun
  | [d1, d2, d3] => { results := [.lit (.bool false)], args := [d1, d2, d3] }
  | _ => none }
def LevelReachesWrongFalsely : Prop := levelReachesRow.holds Tryz.pinned (OpenSpec.ofChange levelReachesWrong)

/-- 'anamorphlaw25.BoundTells': WHATEVER THE INPUT: true; the input reads as it did. -/
def boundTellsSpec : ChangeSpec := { name := "boundTells", fn := fun _ => fun
  | [d1, d2] => { results := [.lit (.bool true)], args := [d1, d2] }
  | _ => none }
def boundTellsRow : OpenClaim := { program := "ytlbiiljncacdoaagreat", sum := "00b316e37f751bbb0781c4a5da772b438dc16be89144022e3368aa211fc5a579", func := "anamorph/anamorphlaw25.BoundTells", spec := "boundTells", inPlace := ["math/bits.Sub64", "math/bits.Add64"], unfollowed := true, recurses := true, named := ["math/bits.divideError", "math/bits.overflowError"], apart := false }
def BoundTellsSaid : Prop := boundTellsRow.holds Tryz.pinned (OpenSpec.ofChange boundTellsSpec)

/-- ITS FALSE NEIGHBOUR: 'it returns false'. Refute it at one input. -/
def boundTellsWrong : ChangeSpec := { name := "boundTells", fn := fun _ => fun
  | [d1, d2] => { results := [.lit (.bool false)], args := [d1, d2] }
  | _ => none }
def BoundTellsWrongFalsely : Prop := boundTellsRow.holds Tryz.pinned (OpenSpec.ofChange boundTellsWrong)

/-- 'anamorphlaw25.BoundHolds': WHATEVER THE INPUT: true; the input reads as it did. -/
def boundHoldsSpec : ChangeSpec := { name := "boundHolds", fn := fun _ => fun
  | [d1, d2, d3] => { results := [.lit (.bool true)], args := [d1, d2, d3] }
  | _ => none }
def boundHoldsRow : OpenClaim := { program := "ytlbiiljncacdoaagreat", sum := "00b316e37f751bbb0781c4a5da772b438dc16be89144022e3368aa211fc5a579", func := "anamorph/anamorphlaw25.BoundHolds", spec := "boundHolds", inPlace := ["math/bits.Sub64", "math/bits.Add64"], unfollowed := true, recurses := true, named := ["math/bits.divideError", "math/bits.overflowError"], apart := false }
def BoundHoldsSaid : Prop := boundHoldsRow.holds Tryz.pinned (OpenSpec.ofChange boundHoldsSpec)

/-- ITS FALSE NEIGHBOUR: 'it returns false'. Refute it at one input. -/
def boundHoldsWrong : ChangeSpec := { name := "boundHolds", fn := fun _ => fun
  | [d1, d2, d3] => { results := [.lit (.bool false)], args := [d1, d2, d3] }
  | _ => none }
def BoundHoldsWrongFalsely : Prop := boundHoldsRow.holds Tryz.pinned (OpenSpec.ofChange boundHoldsWrong)

/-- 'anamorphlaw37.BoxOf': WHATEVER THE INPUT: true; the input reads as it did. -/
def boxOfSpec : ChangeSpec := { name := "boxOf", fn := fun _ => fun
  | [d1, d2] => { results := [.lit (.bool true)], args := [d1, d2] }
  | _ => none }
def boxOfRow : OpenClaim := { program := "ytlbiiljncacdoaagreat", sum := "00b316e37f751bbb0781c4a5da772b438dc16be89144022e3368aa211fc5a579", func := "anamorph/anamorphlaw37.BoxOf", spec := "boxOf", inPlace := ["math/bits.Sub64", "math/bits.Add64"], unfollowed := true, recurses := true, named := ["math/bits.divideError", "math/bits.overflowError"], apart := false }
def BoxOfSaid : Prop := boxOfRow.holds Tryz.pinned (OpenSpec.ofChange boxOfSpec)

/-- ITS FALSE NEIGHBOUR: 'it returns false'. Refute it at one input. -/
def boxOfWrong : ChangeSpec := { name := "boxOf", fn := fun _ => fun
  | [d1, d2] => { results := [.lit (.bool false)], args := [d1, d2] }
  | _ => none }
def BoxOfWrongFalsely : Prop := boxOfRow.holds Tryz.pinned (OpenSpec.ofChange boxOfWrong)

/-- 'anamorphlaw37.BoxHolds': WHATEVER THE INPUT: true; the input reads as it did. -/
def boxHoldsSpec : ChangeSpec := { name := "boxHolds", fn := fun _ => fun
  | [d1, d2, d3] => { results := [.lit (.bool true)], args := [d1, d2, d3] }
  | _ => none }
def boxHoldsRow : OpenClaim := { program := "ytlbiiljncacdoaagreat", sum := "00b316e37f751bbb0781c4a5da772b438dc16be89144022e3368aa211fc5a579", func := "anamorph/anamorphlaw37.BoxHolds", spec := "boxHolds", inPlace := ["math/bits.Sub64", "math/bits.Add64"], unfollowed := true, recurses := true, named := ["math/bits.divideError", "math/bits.overflowError"], apart := false }
def BoxHoldsSaid : Prop := boxHoldsRow.holds Tryz.pinned (OpenSpec.ofChange boxHoldsSpec)

/-- ITS FALSE NEIGHBOUR: 'it returns false'. Refute it at one input. -/
def boxHoldsWrong : ChangeSpec := { name := "boxHolds", fn := fun _ => fun
  | [d1, d2, d3] => { results := [.lit (.bool false)], args := [d1, d2, d3] }
  | _ => none }
def BoxHoldsWrongFalsely : Prop := boxHoldsRow.holds Tryz.pinned (OpenSpec.ofChange boxHoldsWrong)

/-- 'anamorphlaw37.BoxTwos': WHATEVER THE INPUT: true; the input reads as it did. -/
def boxTwosSpec : ChangeSpec := { name := "boxTwos", fn := fun _ => fun
  | [d1, d2, d3] => { results := [.lit (.bool true)], args := [d1, d2, d3] }
  | _ => none }
def boxTwosRow : OpenClaim := { program := "ytlbiiljncacdoaagreat", sum := "00b316e37f751bbb0781c4a5da772b438dc16be89144022e3368aa211fc5a579", func := "anamorph/anamorphlaw37.BoxTwos", spec := "boxTwos", inPlace := ["math/bits.Sub64", "math/bits.Add64"], unfollowed := true, recurses := true, named := ["math/bits.divideError", "math/bits.overflowError"], apart := false }
def BoxTwosSaid : Prop := boxTwosRow.holds Tryz.pinned (OpenSpec.ofChange boxTwosSpec)

/-- ITS FALSE NEIGHBOUR: 'it returns false'. Refute it at one input. -/
def boxTwosWrong : ChangeSpec := { name := "boxTwos", fn := fun _ => fun
  | [d1, d2, d3] => { results := [.lit (.bool false)], args := [d1, d2, d3] }
  | _ => none }
def BoxTwosWrongFalsely : Prop := boxTwosRow.holds Tryz.pinned (OpenSpec.ofChange boxTwosWrong)

/-- 'anamorphlaw44.MeterWarps': WHATEVER THE INPUT: true; the input reads as it did. -/
def meterWarpsSpec : ChangeSpec := { name := "meterWarps", fn := fun _ => fun
  | [d] => { results := [.lit (.bool true)], args := [d] }
  | _ => none }
def meterWarpsRow : OpenClaim := { program := "ytlbiiljncacdoaagreat", sum := "00b316e37f751bbb0781c4a5da772b438dc16be89144022e3368aa211fc5a579", func := "anamorph/anamorphlaw44.MeterWarps", spec := "meterWarps", inPlace := ["math/bits.Sub64", "math/bits.Add64"], unfollowed := true, recurses := true, named := ["math/bits.divideError", "math/bits.overflowError"], apart := false }
def MeterWarpsSaid : Prop := meterWarpsRow.holds Tryz.pinned (OpenSpec.ofChange meterWarpsSpec)

/-- ITS FALSE NEIGHBOUR: 'it returns false'. Refute it at one input. -/
def meterWarpsWrong : ChangeSpec := { name := "meterWarps", fn := fun _ => fun
  | [d] => { results := [.lit (.bool false)], args := [d] }
  | _ => none }
def MeterWarpsWrongFalsely : Prop := meterWarpsRow.holds Tryz.pinned (OpenSpec.ofChange meterWarpsWrong)

/-- 'anamorphlaw44.MeterTakes': WHATEVER THE INPUT: true; the input reads as it did. -/
def meterTakesSpec : ChangeSpec := { name := "meterTakes", fn := fun _ => fun
  | [d1, d2] => { results := [.lit (.bool true)], args := [d1, d2] }
  | _ => none }
def meterTakesRow : OpenClaim := { program := "ytlbiiljncacdoaagreat", sum := "00b316e37f751bbb0781c4a5da772b438dc16be89144022e3368aa211fc5a579", func := "anamorph/anamorphlaw44.MeterTakes", spec := "meterTakes", inPlace := ["math/bits.Sub64", "math/bits.Add64"], unfollowed := true, recurses := true, named := ["math/bits.divideError", "math/bits.overflowError"], apart := false }
def MeterTakesSaid : Prop := meterTakesRow.holds Tryz.pinned (OpenSpec.ofChange meterTakesSpec)

/-- ITS FALSE NEIGHBOUR: 'it returns false'. Refute it at one input. -/
def meterTakesWrong : ChangeSpec := { name := "meterTakes", fn := fun _ => fun
  | [d1, d2] => { results := [.lit (.bool false)], args := [d1, d2] }
  | _ => none }
def MeterTakesWrongFalsely : Prop := meterTakesRow.holds Tryz.pinned (OpenSpec.ofChange meterTakesWrong)

/-- 'anamorphlaw44.MeterWays': WHATEVER THE INPUT: true; the input reads as it did. -/
def meterWaysSpec : ChangeSpec := { name := "meterWays", fn := fun _ => fun
  | [d1, d2, d3] => { results := [.lit (.bool true)], args := [d1, d2, d3] }
  | _ => none }
def meterWaysRow : OpenClaim := { program := "ytlbiiljncacdoaagreat", sum := "00b316e37f751bbb0781c4a5da772b438dc16be89144022e3368aa211fc5a579", func := "anamorph/anamorphlaw44.MeterWays", spec := "meterWays", inPlace := ["math/bits.Sub64", "math/bits.Add64"], unfollowed := true, recurses := true, named := ["math/bits.divideError", "math/bits.overflowError"], apart := false }
def MeterWaysSaid : Prop := meterWaysRow.holds Tryz.pinned (OpenSpec.ofChange meterWaysSpec)

/-- ITS FALSE NEIGHBOUR: 'it returns false'. Refute it at one input. -/
def meterWaysWrong : ChangeSpec := { name := "meterWays", fn := fun _ => fun
  | [d1, d2, d3] => { results := [.lit (.bool false)], args := [d1, d2, d3] }
  | _ => none }
def MeterWaysWrongFalsely : Prop := meterWaysRow.holds Tryz.pinned (OpenSpec.ofChange meterWaysWrong)

/- THE SECOND FORM. 'bulk': how many values and letters a reading holds, each counted each time it is reached (what is shared counts as often as it is met; a slice's spare places count too). A statement '..UptoSaid' is the law's where the arguments, and the package variables that the reading takes, are together of bulk at most 1048576: NARROWER than '..Said'. Prove '..Said' where nothing that the law and all that it calls make is longer than what came in: it says more and counts as full. Else prove '..UptoSaid'. A law counts once. -/
mutual
def uptoBulk {H : Type} : DataW H → Nat
  | .lit (.string bytes) => bytes.length + 1
  | .lit _ => 1
  | .nil => 1
  | .ptr d => uptoBulk d + 1
  | .slice elems spare => uptoBulkAll elems + uptoBulkAll spare + 1
  | .agg parts => uptoBulkAll parts + 1
  | .iface _ d => uptoBulk d + 1
  | .map entries => uptoBulkEntries entries + 1
  | .held _ => 1
def uptoBulkAll {H : Type} : List (DataW H) → Nat
  | [] => 0
  | d :: r => uptoBulk d + uptoBulkAll r
def uptoBulkEntries {H : Type} : List (Lit × DataW H) → Nat
  | [] => 0
  | x :: r => uptoBulkEntry x + uptoBulkEntries r
def uptoBulkEntry {H : Type} : Lit × DataW H → Nat
  | (.string bytes, d) => bytes.length + uptoBulk d + 1
  | (_, d) => uptoBulk d + 1
 end
def uptoSmall : (H : Type) → List (DataW H) → Bool := fun _ ds => decide (uptoBulkAll ds ≤ 1048576)
def OpenSpec.upto (s : _root_.Go.ChangeSpec) : _root_.Go.OpenSpec := { _root_.Go.OpenSpec.ofChange s with cond := some uptoSmall }

/-- 'anamorphlaw24.XformWhole', WHERE WHAT IT READS IS OF BULK AT MOST 1048576: true; the input reads as it did. -/
def xformWholeUptoRow : OpenClaim := { program := "ytlbiiljncacdoaagreat", sum := "00b316e37f751bbb0781c4a5da772b438dc16be89144022e3368aa211fc5a579", func := "anamorph/anamorphlaw24.XformWhole", spec := "xformWhole", inPlace := ["math/bits.Sub64", "math/bits.Add64"], unfollowed := true, recurses := true, named := ["math/bits.divideError", "math/bits.overflowError"], apart := false, narrowed := true }
def XformWholeUptoSaid : Prop := xformWholeUptoRow.holds Tryz.pinned (OpenSpec.upto xformWholeSpec)

/-- 'anamorphlaw24.XformAsks', WHERE WHAT IT READS IS OF BULK AT MOST 1048576: true; the input reads as it did. -/
def xformAsksUptoRow : OpenClaim := { program := "ytlbiiljncacdoaagreat", sum := "00b316e37f751bbb0781c4a5da772b438dc16be89144022e3368aa211fc5a579", func := "anamorph/anamorphlaw24.XformAsks", spec := "xformAsks", inPlace := ["math/bits.Sub64", "math/bits.Add64"], unfollowed := true, recurses := true, named := ["math/bits.divideError", "math/bits.overflowError"], apart := false, narrowed := true }
def XformAsksUptoSaid : Prop := xformAsksUptoRow.holds Tryz.pinned (OpenSpec.upto xformAsksSpec)

/-- 'anamorphlaw24.XformIn', WHERE WHAT IT READS IS OF BULK AT MOST 1048576: true; the input reads as it did. -/
def xformInUptoRow : OpenClaim := { program := "ytlbiiljncacdoaagreat", sum := "00b316e37f751bbb0781c4a5da772b438dc16be89144022e3368aa211fc5a579", func := "anamorph/anamorphlaw24.XformIn", spec := "xformIn", inPlace := ["math/bits.Sub64", "math/bits.Add64"], unfollowed := true, recurses := true, named := ["math/bits.divideError", "math/bits.overflowError"], apart := false, narrowed := true }
def XformInUptoSaid : Prop := xformInUptoRow.holds Tryz.pinned (OpenSpec.upto xformInSpec)

/-- 'anamorphlaw32.LevelReaches', WHERE WHAT IT READS IS OF BULK AT MOST 1048576: true; the input reads as it did. -/
def levelReachesUptoRow : OpenClaim := { program := "ytlbiiljncacdoaagreat", sum := "00b316e37f751bbb0781c4a5da772b438dc16be89144022e3368aa211fc5a579", func := "anamorph/anamorphlaw32.LevelReaches", spec := "levelReaches", inPlace := ["math/bits.Sub64", "math/bits.Add64"], unfollowed := true, recurses := true, named := ["math/bits.divideError", "math/bits.overflowError"], apart := false, narrowed := true }
def LevelReachesUptoSaid : Prop := levelReachesUptoRow.holds Tryz.pinned (OpenSpec.upto levelReachesSpec)

/-- 'anamorphlaw25.BoundTells', WHERE WHAT IT READS IS OF BULK AT MOST 1048576: true; the input reads as it did. -/
def boundTellsUptoRow : OpenClaim := { program := "ytlbiiljncacdoaagreat", sum := "00b316e37f751bbb0781c4a5da772b438dc16be89144022e3368aa211fc5a579", func := "anamorph/anamorphlaw25.BoundTells", spec := "boundTells", inPlace := ["math/bits.Sub64", "math/bits.Add64"], unfollowed := true, recurses := true, named := ["math/bits.divideError", "math/bits.overflowError"], apart := false, narrowed := true }
def BoundTellsUptoSaid : Prop := boundTellsUptoRow.holds Tryz.pinned (OpenSpec.upto boundTellsSpec)

/-- 'anamorphlaw25.BoundHolds', WHERE WHAT IT READS IS OF BULK AT MOST 1048576: true; the input reads as it did. -/
def boundHoldsUptoRow : OpenClaim := { program := "ytlbiiljncacdoaagreat", sum := "00b316e37f751bbb0781c4a5da772b438dc16be89144022e3368aa211fc5a579", func := "anamorph/anamorphlaw25.BoundHolds", spec := "boundHolds", inPlace := ["math/bits.Sub64", "math/bits.Add64"], unfollowed := true, recurses := true, named := ["math/bits.divideError", "math/bits.overflowError"], apart := false, narrowed := true }
def BoundHoldsUptoSaid : Prop := boundHoldsUptoRow.holds Tryz.pinned (OpenSpec.upto boundHoldsSpec)

/-- 'anamorphlaw37.BoxOf', WHERE WHAT IT READS IS OF BULK AT MOST 1048576: true; the input reads as it did. -/
def boxOfUptoRow : OpenClaim := { program := "ytlbiiljncacdoaagreat", sum := "00b316e37f751bbb0781c4a5da772b438dc16be89144022e3368aa211fc5a579", func := "anamorph/anamorphlaw37.BoxOf", spec := "boxOf", inPlace := ["math/bits.Sub64", "math/bits.Add64"], unfollowed := true, recurses := true, named := ["math/bits.divideError", "math/bits.overflowError"], apart := false, narrowed := true }
def BoxOfUptoSaid : Prop := boxOfUptoRow.holds Tryz.pinned (OpenSpec.upto boxOfSpec)

/-- 'anamorphlaw37.BoxHolds', WHERE WHAT IT READS IS OF BULK AT MOST 1048576: true; the input reads as it did. -/
def boxHoldsUptoRow : OpenClaim := { program := "ytlbiiljncacdoaagreat", sum := "00b316e37f751bbb0781c4a5da772b438dc16be89144022e3368aa211fc5a579", func := "anamorph/anamorphlaw37.BoxHolds", spec := "boxHolds", inPlace := ["math/bits.Sub64", "math/bits.Add64"], unfollowed := true, recurses := true, named := ["math/bits.divideError", "math/bits.overflowError"], apart := false, narrowed := true }
def BoxHoldsUptoSaid : Prop := boxHoldsUptoRow.holds Tryz.pinned (OpenSpec.upto boxHoldsSpec)

/-- 'anamorphlaw37.BoxTwos', WHERE WHAT IT READS IS OF BULK AT MOST 1048576: true; the input reads as it did. -/
def boxTwosUptoRow : OpenClaim := { program := "ytlbiiljncacdoaagreat", sum := "00b316e37f751bbb0781c4a5da772b438dc16be89144022e3368aa211fc5a579", func := "anamorph/anamorphlaw37.BoxTwos", spec := "boxTwos", inPlace := ["math/bits.Sub64", "math/bits.Add64"], unfollowed := true, recurses := true, named := ["math/bits.divideError", "math/bits.overflowError"], apart := false, narrowed := true }
def BoxTwosUptoSaid : Prop := boxTwosUptoRow.holds Tryz.pinned (OpenSpec.upto boxTwosSpec)

/-- 'anamorphlaw44.MeterWarps', WHERE WHAT IT READS IS OF BULK AT MOST 1048576: true; the input reads as it did. -/
def meterWarpsUptoRow : OpenClaim := { program := "ytlbiiljncacdoaagreat", sum := "00b316e37f751bbb0781c4a5da772b438dc16be89144022e3368aa211fc5a579", func := "anamorph/anamorphlaw44.MeterWarps", spec := "meterWarps", inPlace := ["math/bits.Sub64", "math/bits.Add64"], unfollowed := true, recurses := true, named := ["math/bits.divideError", "math/bits.overflowError"], apart := false, narrowed := true }
def MeterWarpsUptoSaid : Prop := meterWarpsUptoRow.holds Tryz.pinned (OpenSpec.upto meterWarpsSpec)

/-- 'anamorphlaw44.MeterTakes', WHERE WHAT IT READS IS OF BULK AT MOST 1048576: true; the input reads as it did. -/
def meterTakesUptoRow : OpenClaim := { program := "ytlbiiljncacdoaagreat", sum := "00b316e37f751bbb0781c4a5da772b438dc16be89144022e3368aa211fc5a579", func := "anamorph/anamorphlaw44.MeterTakes", spec := "meterTakes", inPlace := ["math/bits.Sub64", "math/bits.Add64"], unfollowed := true, recurses := true, named := ["math/bits.divideError", "math/bits.overflowError"], apart := false, narrowed := true }
def MeterTakesUptoSaid : Prop := meterTakesUptoRow.holds Tryz.pinned (OpenSpec.upto meterTakesSpec)

/-- 'anamorphlaw44.MeterWays', WHERE WHAT IT READS IS OF BULK AT MOST 1048576: true; the input reads as it did. -/
def meterWaysUptoRow : OpenClaim := { program := "ytlbiiljncacdoaagreat", sum := "00b316e37f751bbb0781c4a5da772b438dc16be89144022e3368aa211fc5a579", func := "anamorph/anamorphlaw44.MeterWays", spec := "meterWays", inPlace := ["math/bits.Sub64", "math/bits.Add64"], unfollowed := true, recurses := true, named := ["math/bits.divideError", "math/bits.overflowError"], apart := false, narrowed := true }
def MeterWaysUptoSaid : Prop := meterWaysUptoRow.holds Tryz.pinned (OpenSpec.upto meterWaysSpec)

end Rows
end Go.Proofs.YtlbiiljncacdoaaGreat
