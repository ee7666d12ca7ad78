/- What is known to live: the kernel runs it. Printed by dec.py. -/
import Derived.Test.YtioikkmmjljedaaGreatDoorKrz
import Derived.Test.YtioikkmmjljedaaGreatDoorLibC
import Derived.Test.YtioikkmmjljedaaGreatDoorProg
namespace Go.Proofs.YtioikkmmjljedaaGreatDoor.Pm
set_option maxRecDepth 1000000
set_option maxHeartbeats 20000000
set_option linter.unusedVariables false
theorem clK_snd (W : World) (Φ : Nat → Phys) : Snd Go.Proofs.Tryz.prog (clO 19 18 32 base0) W Φ := clO_snd (base0_snd Go.Proofs.Tryz.prog) (canEnter_c (by kernel_rfl)) (canEnter_c (by kernel_rfl))
theorem lives8 : levD [] (codesX [19, 18] (codesK Go.Proofs.Tryz.prog [200005, 200013, 25, 38, 39, 40, 41, 43, 44, 52, 53, 55, 57, 59, 61, 62, 63, 64, 68, 69, 70, 71, 77, 79, 80, 82, 83, 85, 86, 88, 91, 92, 93, 95] [11] [44, 52, 55, 57, 61, 62, 63, 68, 77, 80, 82, 83, 85, 86, 88, 91, 93])) (clO 19 18 32 base0) 1000 40 8 [] [] = some (.d (.bool true), []) := by kernel_rfl
end Go.Proofs.YtioikkmmjljedaaGreatDoor.Pm
