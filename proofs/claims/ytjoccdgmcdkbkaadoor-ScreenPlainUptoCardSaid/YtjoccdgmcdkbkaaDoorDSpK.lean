/- What is known to live: the kernel runs it. Printed by dec.py. -/
import Derived.Test.YtjoccdgmcdkbkaaDoorKrn
import Derived.Test.YtjoccdgmcdkbkaaDoorProg
namespace Go.Proofs.YtjoccdgmcdkbkaaDoor.Pm
set_option maxRecDepth 1000000
set_option maxHeartbeats 20000000
set_option linter.unusedVariables false
theorem lives5 : levN (codesK Go.Proofs.Tryd.prog [100012, 16, 27, 28, 29, 30, 32, 36, 41, 42, 44, 46, 48, 50, 51, 52, 53, 57, 58, 59, 60, 67, 69, 70, 72, 73, 75, 76, 78, 81, 82, 83, 85] [20] [36, 41, 44, 46, 50, 51, 52, 57, 67, 70, 72, 73, 75, 76, 78, 81, 83]) base0 1000 40 5 [] [] = some (.d (.bool true), []) := by kernel_rfl
end Go.Proofs.YtjoccdgmcdkbkaaDoor.Pm
