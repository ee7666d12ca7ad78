/- What is known to live: the kernel runs it. Printed by dec.py. -/
import Derived.Test.YtobkkblijfhpoaaGreatDoorMpK
import Derived.Test.YtobkkblijfhpoaaGreatDoorKre
import Derived.Test.YtobkkblijfhpoaaGreatDoorLib1
import Derived.Test.YtobkkblijfhpoaaGreatDoorShelf
import Derived.Shelf.Strings.SlTrimAscii
import Derived.Test.YtobkkblijfhpoaaGreatDoorProg
namespace Go.Proofs.YtobkkblijfhpoaaGreatDoor.Pm
set_option maxRecDepth 1000000
set_option maxHeartbeats 20000000
set_option linter.unusedVariables false
set_option linter.unusedSimpArgs false
noncomputable def libsK : List (Nat × (List PV → Option PV)) := [(154, ossS libTrim), (155, ossL libSplit), (14, osssS libReplaceAll)]
theorem baseK_snd (W : World) (Φ : Nat → Phys) (hΦ : ∀ i b c, Φ i ≠ .blk b c) (hm : ∃ m, W.cell? ⟨0, 0, none⟩ = some (.int .i64 m)) : Snd Go.Proofs.Tryz.prog (libO libsK) W Φ := libO_snd fun x hx => by
 simp only [libsK, List.mem_cons, List.not_mem_nil, or_false] at hx
 rcases hx with rfl | rfl | rfl
 ·exact lok_Trim (canEnter_b (by kernel_rfl)) (fun s c w h1 h2 h3 => Any.strings_Trim_laid Go.Proofs.Tryz.lays160 (by kernel_rfl) s c w h1 h2 h3)
 ·exact lok_Split 0 (fun i c => hΦ i 0 c) hm (canEnter_b (by kernel_rfl)) (fun s sep m w h1 h2 h3 => Go.Proofs.Tryz.strings_Split s sep m w h1 h2 h3)
 ·exact lok_ReplaceAll 0 (fun i c => hΦ i 0 c) hm (canEnter_b (by kernel_rfl)) (fun s o n m w h1 h2 h3 h4 => Go.Proofs.Tryz.strings_ReplaceAll s o n m w h1 h2 h3 h4)
theorem lives7 : levE [95] (codesX [154, 155, 14] (Mp.codesM [8, 9, 10, 30, 38, 43, 51, 60, 61, 65, 68, 70, 72, 74, 76, 88, 103, 105, 108, 118, 123, 124, 156, 157, 100160, 165, 166, 170, 203, 204, 205, 206, 208, 210, 213, 217, 218, 200219, 219, 222, 238, 239, 240, 241, 242, 243, 244, 246, 247, 248, 249, 250, 255, 268, 269, 270, 272, 273, 275, 277, 279, 281, 282, 283, 284, 287, 288, 289, 290, 292, 301, 303, 305, 306, 308, 309, 311, 314, 315, 316, 318, 337] (codesK Go.Proofs.Tryz.prog [8, 9, 10, 30, 38, 43, 51, 60, 61, 65, 68, 70, 72, 74, 76, 88, 103, 105, 108, 118, 123, 124, 156, 157, 100160, 165, 166, 170, 203, 204, 205, 206, 208, 210, 213, 217, 218, 200219, 219, 222, 238, 239, 240, 241, 242, 243, 244, 246, 247, 248, 249, 250, 255, 268, 269, 270, 272, 273, 275, 277, 279, 281, 282, 283, 284, 287, 288, 289, 290, 292, 301, 303, 305, 306, 308, 309, 311, 314, 315, 316, 318, 337] [24, 25, 91, 179, 230] [38, 170, 272, 275, 277, 281, 282, 283, 287, 301, 305, 306, 308, 309, 311, 314, 316]))) (libO libsK) 1000 40 7 [] [] = some (.d (.bool true), []) := by kernel_rfl
end Go.Proofs.YtobkkblijfhpoaaGreatDoor.Pm
