/- The library functions do what is said of them. Printed by dec.py. -/
import Derived.Test.YtjoccdgmcdkbkaaGreatDoorDSsC
import Derived.Test.YtjoccdgmcdkbkaaGreatDoorDSsK
import Derived.Test.YtjoccdgmcdkbkaaGreatDoorShelf
namespace Go.Proofs.YtjoccdgmcdkbkaaGreatDoor.Pm
set_option maxRecDepth 1000000
set_option maxHeartbeats 20000000
set_option linter.unusedVariables false
theorem baseL_snd (W : World) (Φ : Nat → Phys) (hΦ : ∀ i b c, Φ i ≠ .blk b c) (ht : Lib.TabIs Go.Proofs.Tryz.prog W "internal/strconv.uint64pow10" .u64 Lib.pow10Tab) : Snd Go.Proofs.Tryz.prog baseL W Φ := libO_snd fun x hx => by
  simp only [libs, List.mem_cons, List.not_mem_nil, or_false] at hx
  rcases hx with rfl | rfl | rfl
  · exact lok_HasPrefix (canEnter_b (by kernel_rfl)) (fun s p w => Go.Proofs.Tryz.strings_HasPrefix s p w)
  · exact lok_ItoaL hΦ ht (canEnter_b (by kernel_rfl)) (fun n h0 h1 w htab => Go.Proofs.Tryz.strconv_Itoa n h0 h1 w htab)
  · exact lok_Lives codesK_ok lives15
end Go.Proofs.YtjoccdgmcdkbkaaGreatDoor.Pm
