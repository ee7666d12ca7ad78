/- The library functions do what is said of them. Printed by dec.py. -/
import Derived.Test.YtakmihemhmdpkaaDoorDP2C
import Derived.Test.YtakmihemhmdpkaaDoorShelf
import Derived.Shelf.Strings.SlTrimAscii
import Derived.Test.YtakmihemhmdpkaaDoorLibU
namespace Go.Proofs.YtakmihemhmdpkaaDoor.Pm
set_option maxRecDepth 1000000
set_option maxHeartbeats 20000000
set_option linter.unusedVariables false
theorem baseL_snd (W : World) (Φ : Nat → Phys) (hΦ : ∀ i b c, Φ i ≠ .blk b c) (hm : ∃ m, W.cell? ⟨2, 0, none⟩ = some (.int .i64 m)) (hu : Lib.Utf8Tabs 0 1 W) : Snd Go.Proofs.Tryd.prog baseL W Φ := libO_snd fun x hx => by
  simp only [libs, List.mem_cons, List.not_mem_nil, or_false] at hx
  rcases hx with rfl | rfl | rfl | rfl | rfl
  · exact lok_Itoa (canEnter_b (by kernel_rfl)) (fun i hi w => Go.Proofs.Tryd.strconv_Itoa_small i hi w)
  · exact lok_DecodeRune (fun w φ0 hL => utf8_later hL hΦ hu) (canEnter_b (by kernel_rfl)) (fun s w hT => Go.Proofs.Tryd.utf8_DecodeRuneInString s w hT)
  · exact lok_Trim (canEnter_b (by kernel_rfl)) (fun s c w h1 h2 h3 => Any.strings_Trim_laid Go.Proofs.Tryd.lays160 (by kernel_rfl) s c w h1 h2 h3)
  · exact lok_Split 2 (fun i c => hΦ i 2 c) hm (canEnter_b (by kernel_rfl)) (fun s sep m w h1 h2 h3 => Go.Proofs.Tryd.strings_Split s sep m w h1 h2 h3)
  · exact lok_IndexByte (canEnter_b (by kernel_rfl)) (fun s c w => (Go.Proofs.Tryd.strings_IndexByte s (c.toNat : Int) w).mono fun e w' ⟨h1, h2⟩ => ⟨by rw [h1]; simp, h2 ▸ Go.RowKit.Below.refl _ _⟩)
end Go.Proofs.YtakmihemhmdpkaaDoor.Pm
