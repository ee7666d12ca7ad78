/- The library functions do what is said of them. Printed by dec.py. -/
import Derived.Test.YtakmihemhmdpkaaDoorDPaC
import Derived.Test.YtakmihemhmdpkaaDoorShelf
import Derived.Shelf.Strings.SlTrimAscii
namespace Go.Proofs.YtakmihemhmdpkaaDoor.Pm
set_option maxRecDepth 1000000
set_option maxHeartbeats 20000000
set_option linter.unusedVariables false
theorem baseL_snd (W : World) (Φ : Nat → Phys) (hΦ : ∀ i b c, Φ i ≠ .blk b c) (hm : ∃ m, W.cell? ⟨2, 0, none⟩ = some (.int .i64 m)) : Snd Go.Proofs.Tryd.prog baseL W Φ := libO_snd fun x hx => by
  simp only [libs, List.mem_cons, List.not_mem_nil, or_false] at hx
  rcases hx with rfl | rfl | rfl
  · exact lok_Trim (canEnter_b (by kernel_rfl)) (fun s c w h1 h2 h3 => Any.strings_Trim_laid Go.Proofs.Tryd.lays160 (by kernel_rfl) s c w h1 h2 h3)
  · exact lok_Split 2 (fun i c => hΦ i 2 c) hm (canEnter_b (by kernel_rfl)) (fun s sep m w h1 h2 h3 => Go.Proofs.Tryd.strings_Split s sep m w h1 h2 h3)
  · exact lok_IndexByte (canEnter_b (by kernel_rfl)) (fun s c w => (Go.Proofs.Tryd.strings_IndexByte s (c.toNat : Int) w).mono fun e w' ⟨h1, h2⟩ => ⟨by rw [h1]; simp, h2 ▸ Go.RowKit.Below.refl _ _⟩)
end Go.Proofs.YtakmihemhmdpkaaDoor.Pm
