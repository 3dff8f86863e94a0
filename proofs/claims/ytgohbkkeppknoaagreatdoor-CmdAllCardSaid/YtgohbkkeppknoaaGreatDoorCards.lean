/-
  DERIVED. GIVEN WITH THE SEED: THE CARDS: each row of YtgohbkkeppknoaaGreatDoorRows.lean that lists a variable, with what it lists TIED to the program's text (the seventh form; the later family's looks); each row that meets fmt, with fmt's text TOLD by the authors' own Lean function (tested against real Go, not proved from fmt's source: count such statements apart). THE CARD IS WHAT COUNTS. Prove the row's statement (the work); the ties are given (YtgohbkkeppknoaaGreatDoorTie.lean); close each card by the builder's one call (the guide's Derived/Test/ToyasCard.lean, 'card_holds'). Laid BY PROGRAM, IN A SANDBOX (cutbox-door.mjs). By AI agents, Wed Nov 11 2026. No macro, syntax, notation, axiom, sorry.
-/
import Derived.Test.YtgohbkkeppknoaaGreatDoorRows
import GoSem.ClaimSeven
namespace Go.Proofs.YtgohbkkeppknoaaGreatDoor
namespace Rows

/-- THE TIED CARD OF 'anamorphlaw50.CmdParses'. -/
def cmdParsesCard : Claim7 := { stood := { row := cmdParsesRow, standIns := [], harness := (true, "96fe126818f358800234da00e34a23294df5261fdfee4dae0274246be632a6c7"), looks := true }, kinds := [], alts := [], laidByText := true, laidKinds := [.data, .data, .data, .sentinel, .sentinel], laidTests := true, laidLooks := .later }
def CmdParsesCardSaid : Prop := Claim7.holds Tryz.pinned (.plain (OpenSpec.ofChange cmdParsesSpec)) cmdParsesCard

/-- THE TIED CARD OF 'anamorphlaw50.CmdAll'. -/
def cmdAllCard : Claim7 := { stood := { row := cmdAllRow, standIns := [], harness := (true, "96fe126818f358800234da00e34a23294df5261fdfee4dae0274246be632a6c7"), looks := true }, kinds := [], alts := [], laidByText := true, laidKinds := [.data, .data, .data, .sentinel, .sentinel], laidTests := true, laidLooks := .later }
def CmdAllCardSaid : Prop := Claim7.holds Tryz.pinned (.plain (OpenSpec.ofChange cmdAllSpec)) cmdAllCard

/-- THE TIED CARD OF 'anamorphlaw54.GenCmds'. -/
def genCmdsCard : Claim7 := { stood := { row := genCmdsRow, standIns := [], harness := (true, "96fe126818f358800234da00e34a23294df5261fdfee4dae0274246be632a6c7"), looks := true }, kinds := [], alts := [], laidByText := true, laidKinds := [.data, .data, .data], laidTests := true, laidLooks := .later }
def GenCmdsCardSaid : Prop := Claim7.holds Tryz.pinned (.plain (OpenSpec.ofChange genCmdsSpec)) genCmdsCard

/-- THE SECOND FORM's CARD OF 'anamorphlaw50.CmdParses'. -/
def cmdParsesUptoCard : Claim7 := { stood := { row := cmdParsesUptoRow, standIns := [], harness := (true, "96fe126818f358800234da00e34a23294df5261fdfee4dae0274246be632a6c7"), looks := true }, kinds := [], alts := [], laidByText := true, laidKinds := [.data, .data, .data, .sentinel, .sentinel], laidTests := true, laidLooks := .later }
def CmdParsesUptoCardSaid : Prop := Claim7.holds Tryz.pinned (.plain (OpenSpec.upto cmdParsesSpec)) cmdParsesUptoCard

/-- THE SECOND FORM's CARD OF 'anamorphlaw50.CmdAll'. -/
def cmdAllUptoCard : Claim7 := { stood := { row := cmdAllUptoRow, standIns := [], harness := (true, "96fe126818f358800234da00e34a23294df5261fdfee4dae0274246be632a6c7"), looks := true }, kinds := [], alts := [], laidByText := true, laidKinds := [.data, .data, .data, .sentinel, .sentinel], laidTests := true, laidLooks := .later }
def CmdAllUptoCardSaid : Prop := Claim7.holds Tryz.pinned (.plain (OpenSpec.upto cmdAllSpec)) cmdAllUptoCard

/-- THE SECOND FORM's CARD OF 'anamorphlaw54.GenCmds'. -/
def genCmdsUptoCard : Claim7 := { stood := { row := genCmdsUptoRow, standIns := [], harness := (true, "96fe126818f358800234da00e34a23294df5261fdfee4dae0274246be632a6c7"), looks := true }, kinds := [], alts := [], laidByText := true, laidKinds := [.data, .data, .data], laidTests := true, laidLooks := .later }
def GenCmdsUptoCardSaid : Prop := Claim7.holds Tryz.pinned (.plain (OpenSpec.upto genCmdsSpec)) genCmdsUptoCard
end Rows
end Go.Proofs.YtgohbkkeppknoaaGreatDoor
