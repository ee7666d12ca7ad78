/- The library functions do what is said of them. Printed by dec.py. -/
import Derived.Test.YthapehjibbjkjaaDoorDPbC
import Derived.Test.YthapehjibbjkjaaDoorShelf
import Derived.Shelf.Strings.SlTrimAscii
import Derived.Test.YthapehjibbjkjaaDoorLibV
namespace Go.Proofs.YthapehjibbjkjaaDoor.Pm
set_option maxRecDepth 1000000
set_option maxHeartbeats 20000000
set_option linter.unusedVariables false
theorem baseL_snd (W : World) (Φ : Nat → Phys) (hΦ : ∀ i b c, Φ i ≠ .blk b c) (hm : ∃ m, W.cell? ⟨2, 0, none⟩ = some (.int .i64 m)) (ht : Lib.TabIs Go.Proofs.Tryd.prog W "internal/strconv.uint64pow10" .u64 Lib.pow10Tab) (hu : Lib.Utf8Tabs 0 1 W) : Snd Go.Proofs.Tryd.prog baseL W Φ := libO_snd fun x hx => by
  simp only [libs, List.mem_cons, List.not_mem_nil, or_false] at hx
  rcases hx with rfl | rfl | rfl | rfl | rfl | rfl
  · exact lok_IndexByte (canEnter_b (by kernel_rfl)) (fun s c w => (Go.Proofs.Tryd.strings_IndexByte s (c.toNat : Int) w).mono fun e w' ⟨h1, h2⟩ => ⟨by rw [h1]; simp, h2 ▸ Go.RowKit.Below.refl _ _⟩)
  · exact lok_ItoaL hΦ ht (canEnter_b (by kernel_rfl)) (fun n h0 h1 w htab => Go.Proofs.Tryd.strconv_Itoa n h0 h1 w htab)
  · exact lok_Join (canEnter_b (by kernel_rfl)) (fun a c sep w => Any.strings_Join_none Go.Proofs.Tryd.lays156 Go.Proofs.Tryd.Builder_Extra_156 a c sep w) (fun bk o c xs sep w h1 h2 h3 h4 h5 => Go.Proofs.Tryd.strings_Join bk o c xs sep w h1 h2 h3 h4 h5)
  · exact lok_Valid (fun w φ0 hL => utf8_later hL hΦ hu) (canEnter_b (by kernel_rfl)) (fun s w h hT => Go.Proofs.Tryd.utf8_ValidString s w h hT)
  · exact lok_Trim (canEnter_b (by kernel_rfl)) (fun s c w h1 h2 h3 => Any.strings_Trim_laid Go.Proofs.Tryd.lays160 (by kernel_rfl) s c w h1 h2 h3)
  · exact lok_Split 2 (fun i c => hΦ i 2 c) hm (canEnter_b (by kernel_rfl)) (fun s sep m w h1 h2 h3 => Go.Proofs.Tryd.strings_Split s sep m w h1 h2 h3)
end Go.Proofs.YthapehjibbjkjaaDoor.Pm
