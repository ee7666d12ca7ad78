/- What is known to live: the kernel runs it. Printed by dec.py. -/
import Derived.Test.YtobkkblijfhpoaaGreatDoorMpK
import Derived.Test.YtobkkblijfhpoaaGreatDoorKrw
import Derived.Test.YtobkkblijfhpoaaGreatDoorDCpC
import Derived.Test.YtobkkblijfhpoaaGreatDoorKrw
import Derived.Test.YtobkkblijfhpoaaGreatDoorLib1
import Derived.Test.YtobkkblijfhpoaaGreatDoorShelf
import Derived.Shelf.Strings.SlTrimAscii
import Derived.Test.YtobkkblijfhpoaaGreatDoorProg
namespace Go.Proofs.YtobkkblijfhpoaaGreatDoor.Pm
set_option maxRecDepth 1000000
set_option maxHeartbeats 20000000
set_option linter.unusedVariables false
set_option linter.unusedSimpArgs false
noncomputable def aap:List (Nat×(List PV→Option PV)):= [(154,KI oN),(155,KJ ld),(14,CU gJ)]
theorem aaq(W:World)(Φ:Nat→cJ)(IM: ∀i b c,Φ i≠ .blk b c)(hm: ∃m,W.cell? ⟨0,0,none⟩=some (.int .i64 m)):nI Go.Proofs.Tryz.prog (H6 aap) W Φ:=OW fun x hx=>by
 simp only [aap,List.mem_cons,List.not_mem_nil,or_false] at hx
 rcases hx with rfl | rfl | rfl
 ·exact OX (mE (by kernel_rfl)) (fun s c w h1 h2 h3=>Any.strings_Trim_laid Go.Proofs.Tryz.Wz (by kernel_rfl) s c w h1 h2 h3)
 ·exact KM 0 (fun i c=>IM i 0 c) hm (mE (by kernel_rfl)) (fun s sep m w h1 h2 h3=>Go.Proofs.Tryz.strings_Split s sep m w h1 h2 h3)
 ·exact xI 0 (fun i c=>IM i 0 c) hm (mE (by kernel_rfl)) (fun s o n m w h1 h2 h3 h4=>Go.Proofs.Tryz.strings_ReplaceAll s o n m w h1 h2 h3 h4)
noncomputable def ovK:List (Nat×aO):= [(102,Pd)]
theorem avI{br:List Nat}: ∀x∈ovK,uw Go.Proofs.Tryz.prog br x.1 x.2:=fun x hx=>by
 simp only [ovK,List.mem_cons,List.not_mem_nil,or_false] at hx
 rcases hx with rfl
 ·have h:=aK UJ;exact h
theorem arJ:Gd [95] (QE [154,155,14] (JJ ovK (Mp.Sn [8,9,10,30,38,43,51,60,61,65,68,70,72,74,76,88,103,105,108,118,123,124,156,157,100160,165,166,170,203,204,205,206,208,210,213,217,218,200219,219,222,238,239,240,241,242,243,244,246,247,248,249,250,255,268,269,270,272,273,275,277,279,281,282,283,284,287,288,289,290,292,301,303,305,306,308,309,311,314,315,316,318,337,300273] (QD Go.Proofs.Tryz.prog [8,9,10,30,38,43,51,60,61,65,68,70,72,74,76,88,103,105,108,118,123,124,156,157,100160,165,166,170,203,204,205,206,208,210,213,217,218,200219,219,222,238,239,240,241,242,243,244,246,247,248,249,250,255,268,269,270,272,273,275,277,279,281,282,283,284,287,288,289,290,292,301,303,305,306,308,309,311,314,315,316,318,337,300273] [24,25,91,179,230] [38,170,272,275,277,281,282,283,287,301,305,306,308,309,311,314,316])))) (H6 aap) 1000 40 12 [] []=some (.d (.bool true),[]):=by kernel_rfl
end Go.Proofs.YtobkkblijfhpoaaGreatDoor.Pm
