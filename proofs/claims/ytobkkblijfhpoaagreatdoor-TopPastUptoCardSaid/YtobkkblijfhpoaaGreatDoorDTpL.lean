/- The library functions do what is said of them. Printed by dec.py. -/
import Derived.Test.YtobkkblijfhpoaaGreatDoorDTpC
import Derived.Test.YtobkkblijfhpoaaGreatDoorDTpK
import Derived.Test.YtobkkblijfhpoaaGreatDoorShelf
import Derived.Shelf.Strings.SlTrimAscii
namespace Go.Proofs.YtobkkblijfhpoaaGreatDoor.Pm
set_option maxRecDepth 1000000
set_option maxHeartbeats 20000000
set_option linter.unusedVariables false
set_option linter.unusedSimpArgs false
theorem baseL_snd (W : World) (Φ : Nat → Phys) (hΦ : ∀ i b c, Φ i ≠ .blk b c) (hm : ∃ m, W.cell? ⟨0, 0, none⟩ = some (.int .i64 m)) : Snd Go.Proofs.Tryz.prog baseL W Φ := libO_snd fun x hx => by
 simp only [libs, List.mem_cons, List.not_mem_nil, or_false] at hx
 rcases hx with rfl | rfl | rfl | rfl
 ·exact lok_LivesE (codesX_ok (Mp.codesM_ok codesK_ok)) (fun w φ0 hL => baseK_snd w _ (fun i b c h => by cases h) (by obtain ⟨m, h⟩ := hm; exact ⟨m, later_cell hL (fun i c => hΦ i 0 c) h⟩)) lives7
 ·exact lok_Trim (canEnter_b (by kernel_rfl)) (fun s c w h1 h2 h3 => Any.strings_Trim_laid Go.Proofs.Tryz.lays160 (by kernel_rfl) s c w h1 h2 h3)
 ·exact lok_Split 0 (fun i c => hΦ i 0 c) hm (canEnter_b (by kernel_rfl)) (fun s sep m w h1 h2 h3 => Go.Proofs.Tryz.strings_Split s sep m w h1 h2 h3)
 ·exact lok_TrimRight (canEnter_b (by kernel_rfl)) (fun s c hc w hs => Go.Proofs.Tryz.strings_TrimRight_one s c hc w hs)
end Go.Proofs.YtobkkblijfhpoaaGreatDoor.Pm
