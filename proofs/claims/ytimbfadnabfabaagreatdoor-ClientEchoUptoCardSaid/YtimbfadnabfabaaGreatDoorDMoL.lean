/- The library functions do what is said of them. Printed by dec.py. -/
import Derived.Test.YtimbfadnabfabaaGreatDoorDMoC
import Derived.Test.YtimbfadnabfabaaGreatDoorDMoK
import Derived.Test.YtimbfadnabfabaaGreatDoorShelf
import Derived.Shelf.Strings.SlTrimAscii
import Derived.Test.YtimbfadnabfabaaGreatDoorLibU
namespace Go.Proofs.YtimbfadnabfabaaGreatDoor.Pm
set_option maxRecDepth 1000000
set_option maxHeartbeats 20000000
set_option linter.unusedVariables false
set_option linter.unusedSimpArgs false
theorem ZG(W:World)(Φ:Nat→cr)(tF: ∀i b c,Φ i≠ .blk b c)(hm: ∃m,W.cell? ⟨1,0,none⟩=some (.int .i64 m))(ht:Lib.TabIs Go.Proofs.Tryz.prog W "internal/strconv.uint64pow10" .u64 Lib.pow10Tab)(hu:Lib.Utf8Tabs 2 3 W):oo Go.Proofs.Tryz.prog aX W Φ:=NV fun x hx=>by
 simp only [libs,List.mem_cons,List.not_mem_nil,or_false] at hx
 rcases hx with rfl | rfl | rfl | rfl | rfl | rfl | rfl
 ·exact NX (jh (by kernel_rfl)) (fun s c w h1 h2 h3=>Any.strings_Trim_laid Go.Proofs.Tryz.VK (by kernel_rfl) s c w h1 h2 h3)
 ·exact JX 1 (fun i c=>tF i 1 c) hm (jh (by kernel_rfl)) (fun s sep m w h1 h2 h3=>Go.Proofs.Tryz.strings_Split s sep m w h1 h2 h3)
 ·exact WH tF ht (jh (by kernel_rfl)) (fun n h0 h1 w asr=>Go.Proofs.Tryz.strconv_Itoa n h0 h1 w asr)
 ·exact xZ 1 (fun i c=>tF i 1 c) hm (jh (by kernel_rfl)) (fun s o n m w h1 h2 h3 h4=>Go.Proofs.Tryz.strings_ReplaceAll s o n m w h1 h2 h3 h4)
 ·exact HQ (fun w aQ hL=>VM hL tF hu) (jh (by kernel_rfl)) (fun s w hT=>Go.Proofs.Tryz.utf8_DecodeRuneInString s w hT)
 ·exact JW (jh (by kernel_rfl)) (fun s c w=>(Go.Proofs.Tryz.strings_IndexByte s (c.toNat:Int) w).mono fun e w' ⟨h1,h2⟩=>⟨by rw [h1];simp,h2▸Go.RowKit.Below.refl _ _⟩)
 ·exact VJ (WD (L4 (Mp.ZC WC) axx)) (fun w aQ hL=>ZF w _ (fun i b c h=>by cases h) (by obtain ⟨m,h⟩:=hm;exact ⟨m,mV hL (fun i c=>tF i 1 c) h⟩)) asu
end Go.Proofs.YtimbfadnabfabaaGreatDoor.Pm
