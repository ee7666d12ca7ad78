/- The library functions do what is said of them. Printed by dec.py. -/
import Derived.Test.YtjoccdgmcdkbkaaDoorDSpC
import Derived.Test.YtjoccdgmcdkbkaaDoorDSpK
import Derived.Test.YtjoccdgmcdkbkaaDoorShelf
namespace Go.Proofs.YtjoccdgmcdkbkaaDoor.Pm
set_option maxRecDepth 1000000
set_option maxHeartbeats 20000000
set_option linter.unusedVariables false
theorem baseL_snd (W : World) (Φ : Nat → Phys) : Snd Go.Proofs.Tryd.prog baseL W Φ := libO_snd fun x hx => by
  simp only [libs, List.mem_cons, List.not_mem_nil, or_false] at hx
  rcases hx with rfl | rfl
  · exact lok_Lives codesK_ok lives5
  · exact lok_HasPrefix (canEnter_b (by kernel_rfl)) (fun s p w => Go.Proofs.Tryd.strings_HasPrefix s p w)
end Go.Proofs.YtjoccdgmcdkbkaaDoor.Pm
