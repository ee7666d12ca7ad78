/- What is known to live: the kernel runs it. Printed by dec.py. -/
import Derived.Test.YtbokpgemkkebnaaGreatDoorKrz
import Derived.Test.YtbokpgemkkebnaaGreatDoorLib1
import Derived.Test.YtbokpgemkkebnaaGreatDoorShelf
import Derived.Shelf.Strings.SlTrimAscii
import Derived.Test.YtbokpgemkkebnaaGreatDoorProg
namespace Go.Proofs.YtbokpgemkkebnaaGreatDoor.Pm
set_option maxRecDepth 1000000
set_option maxHeartbeats 20000000
set_option linter.unusedVariables false
noncomputable def libsK : List (Nat × (List PV → Option PV)) := [(76, ossS libTrim), (77, ossL libSplit), (71, oiS libItoa), (72, oSsS libJoin)]
theorem baseK_snd (W : World) (Φ : Nat → Phys) (hΦ : ∀ i b c, Φ i ≠ .blk b c) (hm : ∃ m, W.cell? ⟨2, 0, none⟩ = some (.int .i64 m)) : Snd Go.Proofs.Tryz.prog (libO libsK) W Φ := libO_snd fun x hx => by
 simp only [libsK, List.mem_cons, List.not_mem_nil, or_false] at hx
 rcases hx with rfl | rfl | rfl | rfl
 ·exact lok_Trim (canEnter_b (by kernel_rfl)) (fun s c w h1 h2 h3 => Any.strings_Trim_laid Go.Proofs.Tryz.lays160 (by kernel_rfl) s c w h1 h2 h3)
 ·exact lok_Split 2 (fun i c => hΦ i 2 c) hm (canEnter_b (by kernel_rfl)) (fun s sep m w h1 h2 h3 => Go.Proofs.Tryz.strings_Split s sep m w h1 h2 h3)
 ·exact lok_Itoa (canEnter_b (by kernel_rfl)) (fun i hi w => Go.Proofs.Tryz.strconv_Itoa_small i hi w)
 ·exact lok_Join (canEnter_b (by kernel_rfl)) (fun a c sep w => Any.strings_Join_none Go.Proofs.Tryz.lays156 Go.Proofs.Tryz.Builder_Extra_156 a c sep w) (fun bk o c xs sep w h1 h2 h3 h4 h5 => Go.Proofs.Tryz.strings_Join bk o c xs sep w h1 h2 h3 h4 h5)
theorem lives6 : levD [51] (codesX [76, 77, 71, 72] (codesK Go.Proofs.Tryz.prog [12, 13, 100016, 25, 32, 35, 52, 53, 54, 55, 56, 57, 58, 61, 62, 63, 64, 66, 79, 80, 81, 84, 85, 87, 89, 91, 93, 94, 95, 96, 100, 101, 102, 103, 106, 107, 108, 119, 122, 124, 125, 127, 128, 130, 131, 133, 135, 136, 146, 147, 148, 149, 151, 193] [24] [25, 84, 87, 89, 93, 94, 95, 100, 122, 125, 127, 128, 130, 131, 133, 147, 149])) (libO libsK) 1000 40 6 [] [] = some (.d (.bool true), []) := by kernel_rfl
end Go.Proofs.YtbokpgemkkebnaaGreatDoor.Pm
