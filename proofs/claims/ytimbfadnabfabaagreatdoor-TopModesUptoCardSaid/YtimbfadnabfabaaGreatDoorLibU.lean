/- The two tables of unicode/utf8 stay as they lay at first. -/
import Derived.Test.YtimbfadnabfabaaGreatDoorLib1
import Derived.Shelf.Unicode.DecodeAny
namespace Go.Proofs.YtimbfadnabfabaaGreatDoor.Pm
open Go.RowKit
theorem Vf{w W:World}{Φ aP:Nat→cg}{g3 g4:Nat}(hL:gV W Φ w aP)(sO: ∀i b c,Φ i≠ .blk b c)(h:Lib.Utf8Tabs g3 g4 W):Lib.Utf8Tabs g3 g4 w:=
 ⟨fun c hc=>mC hL (fun i c=>sO i g3 c) (h.1 c hc),fun i hi=>⟨mC hL (fun i c=>sO i g4 c) (h.2 i hi).1,mC hL (fun i c=>sO i g4 c) (h.2 i hi).2⟩⟩
end Go.Proofs.YtimbfadnabfabaaGreatDoor.Pm
