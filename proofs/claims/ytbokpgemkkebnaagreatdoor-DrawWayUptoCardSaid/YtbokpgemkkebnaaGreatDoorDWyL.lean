/- The library functions do what is said of them. Printed by dec.py. -/
import Derived.Test.YtbokpgemkkebnaaGreatDoorDWyC
import Derived.Test.YtbokpgemkkebnaaGreatDoorDWyK
import Derived.Test.YtbokpgemkkebnaaGreatDoorShelf
import Derived.Shelf.Strings.SlTrimAscii
namespace Go.Proofs.YtbokpgemkkebnaaGreatDoor.Pm
set_option maxRecDepth 1000000
set_option maxHeartbeats 20000000
set_option linter.unusedVariables false
theorem baseL_snd (W : World) (Φ : Nat → Phys) (hΦ : ∀ i b c, Φ i ≠ .blk b c) (hm : ∃ m, W.cell? ⟨2, 0, none⟩ = some (.int .i64 m)) (ht : Lib.TabIs Go.Proofs.Tryz.prog W "internal/strconv.uint64pow10" .u64 Lib.pow10Tab) : Snd Go.Proofs.Tryz.prog baseL W Φ := libO_snd fun x hx => by
 simp only [libs, List.mem_cons, List.not_mem_nil, or_false] at hx
 rcases hx with rfl | rfl | rfl | rfl | rfl
 ·exact lok_ItoaL hΦ ht (canEnter_b (by kernel_rfl)) (fun n h0 h1 w htab => Go.Proofs.Tryz.strconv_Itoa n h0 h1 w htab)
 ·exact lok_Join (canEnter_b (by kernel_rfl)) (fun a c sep w => Any.strings_Join_none Go.Proofs.Tryz.lays156 Go.Proofs.Tryz.Builder_Extra_156 a c sep w) (fun bk o c xs sep w h1 h2 h3 h4 h5 => Go.Proofs.Tryz.strings_Join bk o c xs sep w h1 h2 h3 h4 h5)
 ·exact lok_LivesD (codesX_ok codesK_ok) (fun w φ0 hL => baseK_snd w _ (fun i b c h => by cases h) (by obtain ⟨m, h⟩ := hm; exact ⟨m, later_cell hL (fun i c => hΦ i 2 c) h⟩)) lives6
 ·exact lok_Trim (canEnter_b (by kernel_rfl)) (fun s c w h1 h2 h3 => Any.strings_Trim_laid Go.Proofs.Tryz.lays160 (by kernel_rfl) s c w h1 h2 h3)
 ·exact lok_Split 2 (fun i c => hΦ i 2 c) hm (canEnter_b (by kernel_rfl)) (fun s sep m w h1 h2 h3 => Go.Proofs.Tryz.strings_Split s sep m w h1 h2 h3)
end Go.Proofs.YtbokpgemkkebnaaGreatDoor.Pm
