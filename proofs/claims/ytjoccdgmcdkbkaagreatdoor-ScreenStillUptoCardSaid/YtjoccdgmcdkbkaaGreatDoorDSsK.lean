/- What is known to live: the kernel runs it. Printed by dec.py. -/
import Derived.Test.YtjoccdgmcdkbkaaGreatDoorKrn
import Derived.Test.YtjoccdgmcdkbkaaGreatDoorProg
namespace Go.Proofs.YtjoccdgmcdkbkaaGreatDoor.Pm
set_option maxRecDepth 1000000
set_option maxHeartbeats 20000000
set_option linter.unusedVariables false
theorem lives15 : levN (codesK Go.Proofs.Tryz.prog [100017, 38, 63, 64, 65, 66, 68, 75, 80, 86, 87, 89, 91, 93, 95, 96, 97, 98, 102, 103, 104, 105, 113, 115, 117, 118, 120, 121, 123, 125, 126, 127, 129] [19, 60] [75, 80, 86, 89, 91, 95, 96, 97, 102, 113, 117, 118, 120, 121, 123, 125, 127]) base0 1000 40 15 [] [] = some (.d (.bool true), []) := by kernel_rfl
end Go.Proofs.YtjoccdgmcdkbkaaGreatDoor.Pm
