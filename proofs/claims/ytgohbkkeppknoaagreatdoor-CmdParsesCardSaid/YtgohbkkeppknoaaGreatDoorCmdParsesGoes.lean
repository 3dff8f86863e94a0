/- What the row of CmdParses says of its roads, asked by the kernel in a text of its own (it takes much memory). -/
import Derived.Test.YtgohbkkeppknoaaGreatDoorChecked
import Derived.Test.YtgohbkkeppknoaaGreatDoorCards
import Derived.SevenTiedAt
namespace Go.Proofs.YtgohbkkeppknoaaGreatDoor.cmdParses
theorem goes : false = Rows.cmdParsesRow.goesBy Tryz.pinned.checked.prog := by kernel_rfl
end Go.Proofs.YtgohbkkeppknoaaGreatDoor.cmdParses
