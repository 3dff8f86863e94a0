/-
  DERIVED. GIVEN WITH THE SEED: THE CARDS: each row of YtencbfmcmpmdnaaGreatDoorRows.lean that lists a variable, with what it lists TIED to the program's text (the seventh form; the later family's looks); each row that meets fmt, with fmt's text TOLD by the authors' own Lean function (tested against real Go, not proved from fmt's source: count such statements apart). THE CARD IS WHAT COUNTS. Prove the row's statement (the work); the ties are given (YtencbfmcmpmdnaaGreatDoorTie.lean); close each card by the builder's one call (the guide's Derived/Test/ToyasCard.lean, 'card_holds'). Laid BY PROGRAM, IN A SANDBOX (cutbox-door.mjs). By AI agents, Wed Nov 11 2026. No macro, syntax, notation, axiom, sorry.
-/
import Derived.Test.YtencbfmcmpmdnaaGreatDoorRows
import GoSem.ClaimSeven
namespace Go.Proofs.YtencbfmcmpmdnaaGreatDoor
namespace Rows

/-- THE TIED CARD OF 'anamorphlaw51.ShownOf'. -/
def shownOfCard : Claim7 := { stood := { row := shownOfRow, standIns := [], harness := (true, "a0554c3089faaf26f70fba93b47464c2d0f898fa8a6054ad71da83a4ebd6fb10"), looks := false }, kinds := [], alts := [], laidByText := true, laidKinds := [.data, .data, .data], laidTests := true, laidLooks := .later }
def ShownOfCardSaid : Prop := Claim7.holds Tryz.pinned (.plain (OpenSpec.ofChange shownOfSpec)) shownOfCard

/-- THE SECOND FORM's CARD OF 'anamorphlaw51.ShownOf'. -/
def shownOfUptoCard : Claim7 := { stood := { row := shownOfUptoRow, standIns := [], harness := (true, "a0554c3089faaf26f70fba93b47464c2d0f898fa8a6054ad71da83a4ebd6fb10"), looks := false }, kinds := [], alts := [], laidByText := true, laidKinds := [.data, .data, .data], laidTests := true, laidLooks := .later }
def ShownOfUptoCardSaid : Prop := Claim7.holds Tryz.pinned (.plain (OpenSpec.upto shownOfSpec)) shownOfUptoCard
end Rows
end Go.Proofs.YtencbfmcmpmdnaaGreatDoor
