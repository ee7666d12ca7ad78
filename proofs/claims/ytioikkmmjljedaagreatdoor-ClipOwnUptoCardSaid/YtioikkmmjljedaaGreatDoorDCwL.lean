/- The library functions do what is said of them. Printed by dec.py. -/
import Derived.Test.YtioikkmmjljedaaGreatDoorDCwC
import Derived.Test.YtioikkmmjljedaaGreatDoorDCwK
namespace Go.Proofs.YtioikkmmjljedaaGreatDoor.Pm
set_option maxRecDepth 1000000
set_option maxHeartbeats 20000000
set_option linter.unusedVariables false
theorem libL_snd (W : World) (Φ : Nat → Phys) : Snd Go.Proofs.Tryz.prog (libO libs) W Φ := libO_snd fun x hx => by
  simp only [libs, List.mem_cons, List.not_mem_nil, or_false] at hx
  rcases hx with rfl
  · exact lok_LivesD (codesX_ok codesK_ok) (fun w φ0 hL => clK_snd w _) lives8
theorem baseL_snd (W : World) (Φ : Nat → Phys) : Snd Go.Proofs.Tryz.prog baseL W Φ := clO_snd (libL_snd W Φ) (canEnter_c (by kernel_rfl)) (canEnter_c (by kernel_rfl))
end Go.Proofs.YtioikkmmjljedaaGreatDoor.Pm
