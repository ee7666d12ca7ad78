/- The library functions do what is said of them. Printed by dec.py. -/
import Derived.Test.YtdphimcpcclifaaDToC
namespace Go.Proofs.Ytdphimcpcclifaa.Pm
set_option maxRecDepth 1000000
set_option maxHeartbeats 20000000
set_option linter.unusedVariables false
theorem baseL_snd (W : World) (Φ : Nat → Phys) : Snd Go.Proofs.Try.prog baseL W Φ := libO_snd fun x hx => by
  simp only [libs, List.mem_cons, List.not_mem_nil, or_false] at hx
  rcases hx with rfl
  · exact lok_Answer (canEnter_c (by kernel_rfl))
end Go.Proofs.Ytdphimcpcclifaa.Pm
