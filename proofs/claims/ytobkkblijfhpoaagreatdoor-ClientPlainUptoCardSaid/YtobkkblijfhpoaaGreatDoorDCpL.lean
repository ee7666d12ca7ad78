/- The library functions do what is said of them. Printed by dec.py. -/
import Derived.Test.YtobkkblijfhpoaaGreatDoorDCpC
import Derived.Test.YtobkkblijfhpoaaGreatDoorDCpK
import Derived.Test.YtobkkblijfhpoaaGreatDoorShelf
import Derived.Shelf.Strings.SlTrimAscii
namespace Go.Proofs.YtobkkblijfhpoaaGreatDoor.Pm
set_option maxRecDepth 1000000
set_option maxHeartbeats 20000000
set_option linter.unusedVariables false
set_option linter.unusedSimpArgs false
theorem aar(W:World)(Φ:Nat→cJ)(IM: ∀i b c,Φ i≠ .blk b c)(hm: ∃m,W.cell? ⟨0,0,none⟩=some (.int .i64 m)):nI Go.Proofs.Tryz.prog bE W Φ:=OW fun x hx=>by
 simp only [libs,List.mem_cons,List.not_mem_nil,or_false] at hx
 rcases hx with rfl | rfl | rfl | rfl | rfl | rfl
 ·exact Wy (XY (MV (Mp.aao XX) avI)) (fun w aS hL=>aaq w _ (fun i b c h=>by cases h) (by obtain ⟨m,h⟩:=hm;exact ⟨m,yG hL (fun i c=>IM i 0 c) h⟩)) arJ
 ·exact xI 0 (fun i c=>IM i 0 c) hm (mE (by kernel_rfl)) (fun s o n m w h1 h2 h3 h4=>Go.Proofs.Tryz.strings_ReplaceAll s o n m w h1 h2 h3 h4)
 ·exact OX (mE (by kernel_rfl)) (fun s c w h1 h2 h3=>Any.strings_Trim_laid Go.Proofs.Tryz.Wz (by kernel_rfl) s c w h1 h2 h3)
 ·exact KM 0 (fun i c=>IM i 0 c) hm (mE (by kernel_rfl)) (fun s sep m w h1 h2 h3=>Go.Proofs.Tryz.strings_Split s sep m w h1 h2 h3)
 ·exact Uq (Ic (by kernel_rfl))
 ·exact alb (Ic (by kernel_rfl))
end Go.Proofs.YtobkkblijfhpoaaGreatDoor.Pm
