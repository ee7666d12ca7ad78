/- The library functions do what is said of them. Printed by dec.py. -/
import Derived.Test.YtohecbgpjpfncaaDoorDUaC
import Derived.Test.YtohecbgpjpfncaaDoorShelf
import Derived.Test.YtohecbgpjpfncaaDoorLibU
namespace Go.Proofs.YtohecbgpjpfncaaDoor.Pm
set_option maxRecDepth 1000000
set_option maxHeartbeats 20000000
set_option linter.unusedVariables false
theorem baseL_snd (W : World) (Φ : Nat → Phys) (hΦ : ∀ i b c, Φ i ≠ .blk b c) (hu : Lib.Utf8Tabs 0 1 W) : Snd Go.Proofs.Tryd.prog baseL W Φ := libO_snd fun x hx => by
  simp only [libs, List.mem_cons, List.not_mem_nil, or_false] at hx
  rcases hx with rfl
  · exact lok_DecodeRune (fun w φ0 hL => utf8_later hL hΦ hu) (canEnter_b (by kernel_rfl)) (fun s w hT => Go.Proofs.Tryd.utf8_DecodeRuneInString s w hT)
end Go.Proofs.YtohecbgpjpfncaaDoor.Pm
