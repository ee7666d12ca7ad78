/- The two tables of unicode/utf8 stay as they lay at first. -/
import Derived.Test.YthapehjibbjkjaaDoorLib1
import Derived.Shelf.Unicode.DecodeAny
namespace Go.Proofs.YthapehjibbjkjaaDoor.Pm
open Go.RowKit
theorem utf8_later {w W : World} {Φ φ0 : Nat → Phys} {g3 g4 : Nat} (hL : Later W Φ w φ0) (hΦ : ∀ i b c, Φ i ≠ .blk b c) (h : Lib.Utf8Tabs g3 g4 W) : Lib.Utf8Tabs g3 g4 w :=
  ⟨fun c hc => later_cell hL (fun i c => hΦ i g3 c) (h.1 c hc), fun i hi => ⟨later_cell hL (fun i c => hΦ i g4 c) (h.2 i hi).1, later_cell hL (fun i c => hΦ i g4 c) (h.2 i hi).2⟩⟩
end Go.Proofs.YthapehjibbjkjaaDoor.Pm
