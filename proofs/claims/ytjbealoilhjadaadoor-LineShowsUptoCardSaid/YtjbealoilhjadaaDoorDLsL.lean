/- The library functions do what is said of them. Printed by dec.py. -/
import Derived.Test.YtjbealoilhjadaaDoorDLsC
import Derived.Test.YtjbealoilhjadaaDoorShelf
namespace Go.Proofs.YtjbealoilhjadaaDoor.Pm
set_option maxRecDepth 1000000
set_option maxHeartbeats 20000000
set_option linter.unusedVariables false
theorem baseL_snd (W : World) (Φ : Nat → Phys) : Snd Go.Proofs.Tryd.prog baseL W Φ := libO_snd fun x hx => by
  simp only [libs, List.mem_cons, List.not_mem_nil, or_false] at hx
  rcases hx with rfl | rfl | rfl | rfl | rfl
  · exact lok_Repeat (canEnter_b (by kernel_rfl)) (fun s c w hc hl => Go.Proofs.Tryd.strings_Repeat s c w hc hl)
  · exact lok_TrimRight (canEnter_b (by kernel_rfl)) (fun s c hc w hs => Go.Proofs.Tryd.strings_TrimRight_one s c hc w hs)
  · exact lok_LastIndexByte (canEnter_b (by kernel_rfl)) (fun s c hs w => Go.Proofs.Tryd.strings_LastIndexByte s c hs w)
  · exact lok_LineAny (canEnter_b (by kernel_rfl)) (fun s w hs => La.ContainsAny_line Go.Proofs.Tryd.lays150 (by kernel_rfl) s w hs)
  · exact lok_HasPrefix (canEnter_b (by kernel_rfl)) (fun s p w => Go.Proofs.Tryd.strings_HasPrefix s p w)
end Go.Proofs.YtjbealoilhjadaaDoor.Pm
