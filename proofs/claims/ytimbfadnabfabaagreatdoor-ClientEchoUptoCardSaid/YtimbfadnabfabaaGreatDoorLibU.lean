/- The two tables of unicode/utf8 stay as they lay at first. -/
import Derived.Test.YtimbfadnabfabaaGreatDoorLib1
import Derived.Shelf.Unicode.DecodeAny
namespace Go.Proofs.YtimbfadnabfabaaGreatDoor.Pm
open Go.RowKit
theorem VM{w W:World}{Φ aQ:Nat→cr}{g3 g4:Nat}(hL:gY W Φ w aQ)(tF: ∀i b c,Φ i≠ .blk b c)(h:Lib.Utf8Tabs g3 g4 W):Lib.Utf8Tabs g3 g4 w:=
 ⟨fun c hc=>mV hL (fun i c=>tF i g3 c) (h.1 c hc),fun i hi=>⟨mV hL (fun i c=>tF i g4 c) (h.2 i hi).1,mV hL (fun i c=>tF i g4 c) (h.2 i hi).2⟩⟩
end Go.Proofs.YtimbfadnabfabaaGreatDoor.Pm
