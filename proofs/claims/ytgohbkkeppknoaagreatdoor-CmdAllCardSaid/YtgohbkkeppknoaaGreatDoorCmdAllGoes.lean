/- What the row of CmdAll says of its roads, asked by the kernel in a text of its own (it takes much memory). -/
import Derived.Test.YtgohbkkeppknoaaGreatDoorChecked
import Derived.Test.YtgohbkkeppknoaaGreatDoorCards
import Derived.SevenTiedAt
namespace Go.Proofs.YtgohbkkeppknoaaGreatDoor.cmdAll
theorem goes : false = Rows.cmdAllRow.goesBy Tryz.pinned.checked.prog := by kernel_rfl
end Go.Proofs.YtgohbkkeppknoaaGreatDoor.cmdAll
