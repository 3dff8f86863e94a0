/- The law MeterWarps: the walk. -/
import Derived.Test.YtencbfmcmpmdnaaGreatDoorMW1
set_option linter.unusedVariables false
namespace Go.Proofs.YtencbfmcmpmdnaaGreatDoor
open Go.RowKit
end Go.Proofs.YtencbfmcmpmdnaaGreatDoor
