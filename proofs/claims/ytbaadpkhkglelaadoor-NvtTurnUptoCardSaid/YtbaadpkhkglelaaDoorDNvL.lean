/- The library functions do what is said of them. Printed by dec.py. -/
import Derived.Test.YtbaadpkhkglelaaDoorDNvC
import Derived.Test.YtbaadpkhkglelaaDoorShelf
namespace Go.Proofs.YtbaadpkhkglelaaDoor.Pm
set_option maxRecDepth 1000000
set_option maxHeartbeats 20000000
set_option linter.unusedVariables false
theorem baseL_snd (W : World) (Φ : Nat → Phys) (hΦ : ∀ i c, Φ i ≠ .blk 0 c) (hm : ∃ m, W.cell? ⟨0, 0, none⟩ = some (.int .i64 m)) : Snd Go.Proofs.Tryd.prog baseL W Φ := libO_snd fun x hx => by
  simp only [libs, List.mem_cons, List.not_mem_nil, or_false] at hx
  rcases hx with rfl
  · exact lok_ReplaceAll 0 hΦ hm (canEnter_b (by kernel_rfl)) (fun s o n m w h1 h2 h3 h4 => Go.Proofs.Tryd.strings_ReplaceAll s o n m w h1 h2 h3 h4)
end Go.Proofs.YtbaadpkhkglelaaDoor.Pm
