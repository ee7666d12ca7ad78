/- What is known to live: the kernel runs it. Printed by dec.py. -/
import Derived.Test.YtgjckmjlocankaaGreatDoorKrz
import Derived.Test.YtgjckmjlocankaaGreatDoorLib1
import Derived.Test.YtgjckmjlocankaaGreatDoorShelf
import Derived.Shelf.Strings.SlTrimAscii
import Derived.Test.YtgjckmjlocankaaGreatDoorProg
namespace Go.Proofs.YtgjckmjlocankaaGreatDoor.Pm
set_option maxRecDepth 1000000
set_option maxHeartbeats 20000000
set_option linter.unusedVariables false
noncomputable def libsK : List (Nat × (List PV → Option PV)) := [(83, ossS libTrim), (84, ossL libSplit), (55, oiS libItoa), (56, oSsS libJoin)]
theorem baseK_snd (W : World) (Φ : Nat → Phys) (hΦ : ∀ i b c, Φ i ≠ .blk b c) (hm : ∃ m, W.cell? ⟨2, 0, none⟩ = some (.int .i64 m)) : Snd Go.Proofs.Tryz.prog (libO libsK) W Φ := libO_snd fun x hx => by
  simp only [libsK, List.mem_cons, List.not_mem_nil, or_false] at hx
  rcases hx with rfl | rfl | rfl | rfl
  · exact lok_Trim (canEnter_b (by kernel_rfl)) (fun s c w h1 h2 h3 => Any.strings_Trim_laid Go.Proofs.Tryz.lays160 (by kernel_rfl) s c w h1 h2 h3)
  · exact lok_Split 2 (fun i c => hΦ i 2 c) hm (canEnter_b (by kernel_rfl)) (fun s sep m w h1 h2 h3 => Go.Proofs.Tryz.strings_Split s sep m w h1 h2 h3)
  · exact lok_Itoa (canEnter_b (by kernel_rfl)) (fun i hi w => Go.Proofs.Tryz.strconv_Itoa_small i hi w)
  · exact lok_Join (canEnter_b (by kernel_rfl)) (fun a c sep w => Any.strings_Join_none Go.Proofs.Tryz.lays156 Go.Proofs.Tryz.Builder_Extra_156 a c sep w) (fun bk o c xs sep w h1 h2 h3 h4 h5 => Go.Proofs.Tryz.strings_Join bk o c xs sep w h1 h2 h3 h4 h5)
theorem lives5 : levD [60] (codesX [83, 84, 55, 56] (codesK Go.Proofs.Tryz.prog [10, 11, 22, 100028, 46, 49, 61, 62, 63, 64, 65, 66, 67, 69, 70, 71, 72, 74, 86, 87, 88, 90, 91, 93, 95, 97, 99, 100, 101, 102, 106, 107, 108, 109, 123, 126, 128, 129, 131, 132, 134, 135, 137, 151, 152, 153, 154, 156] [21] [22, 90, 93, 95, 99, 100, 101, 106, 126, 129, 131, 132, 134, 135, 137, 152, 154])) (libO libsK) 1000 40 5 [] [] = some (.d (.bool true), []) := by kernel_rfl
end Go.Proofs.YtgjckmjlocankaaGreatDoor.Pm
