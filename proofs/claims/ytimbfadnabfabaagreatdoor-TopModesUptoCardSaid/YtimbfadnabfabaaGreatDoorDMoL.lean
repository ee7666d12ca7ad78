/- The library functions do what is said of them. Printed by dec.py. -/
import Derived.Test.YtimbfadnabfabaaGreatDoorDMoC
import Derived.Test.YtimbfadnabfabaaGreatDoorDMoK
import Derived.Test.YtimbfadnabfabaaGreatDoorShelf
import Derived.Shelf.Strings.SlTrimAscii
import Derived.Test.YtimbfadnabfabaaGreatDoorLibU
namespace Go.Proofs.YtimbfadnabfabaaGreatDoor.Pm
set_option maxRecDepth 1000000
set_option maxHeartbeats 20000000
set_option linter.unusedVariables false
set_option linter.unusedSimpArgs false
theorem Y4(W:World)(Φ:Nat→cg)(sO: ∀i b c,Φ i≠ .blk b c)(hm: ∃m,W.cell? ⟨1,0,none⟩=some (.int .i64 m))(ht:Lib.TabIs Go.Proofs.Tryz.prog W "internal/strconv.uint64pow10" .u64 Lib.pow10Tab)(hu:Lib.Utf8Tabs 2 3 W):nS Go.Proofs.Tryz.prog aX W Φ:=M8 fun x hx=>by
 simp only [libs,List.mem_cons,List.not_mem_nil,or_false] at hx
 rcases hx with rfl | rfl | rfl | rfl | rfl | rfl | rfl
 ·exact M_ (iY (by kernel_rfl)) (fun s c w h1 h2 h3=>Any.strings_Trim_laid Go.Proofs.Tryz.Vd (by kernel_rfl) s c w h1 h2 h3)
 ·exact I4 1 (fun i c=>sO i 1 c) hm (iY (by kernel_rfl)) (fun s sep m w h1 h2 h3=>Go.Proofs.Tryz.strings_Split s sep m w h1 h2 h3)
 ·exact V9 sO ht (iY (by kernel_rfl)) (fun n h0 h1 w apq=>Go.Proofs.Tryz.strconv_Itoa n h0 h1 w apq)
 ·exact wF 1 (fun i c=>sO i 1 c) hm (iY (by kernel_rfl)) (fun s o n m w h1 h2 h3 h4=>Go.Proofs.Tryz.strings_ReplaceAll s o n m w h1 h2 h3 h4)
 ·exact GP (fun w aP hL=>Vf hL sO hu) (iY (by kernel_rfl)) (fun s w hT=>Go.Proofs.Tryz.utf8_DecodeRuneInString s w hT)
 ·exact I3 (iY (by kernel_rfl)) (fun s c w=>(Go.Proofs.Tryz.strings_IndexByte s (c.toNat:Int) w).mono fun e w' ⟨h1,h2⟩=>⟨by rw [h1];simp,h2▸Go.RowKit.Below.refl _ _⟩)
 ·exact Vc (V6 (Lc (Mp.Y1 V5) avB)) (fun w aP hL=>Y3 w _ (fun i b c h=>by cases h) (by obtain ⟨m,h⟩:=hm;exact ⟨m,mC hL (fun i c=>sO i 1 c) h⟩)) avC
end Go.Proofs.YtimbfadnabfabaaGreatDoor.Pm
