/- What is known to live: the kernel runs it. Printed by dec.py. -/
import Derived.Test.YtimbfadnabfabaaGreatDoorMpK
import Derived.Test.YtimbfadnabfabaaGreatDoorKrw
import Derived.Test.YtimbfadnabfabaaGreatDoorDMoC
import Derived.Test.YtimbfadnabfabaaGreatDoorKrw
import Derived.Test.YtimbfadnabfabaaGreatDoorLib1
import Derived.Test.YtimbfadnabfabaaGreatDoorShelf
import Derived.Shelf.Strings.SlTrimAscii
import Derived.Test.YtimbfadnabfabaaGreatDoorProg
namespace Go.Proofs.YtimbfadnabfabaaGreatDoor.Pm
set_option maxRecDepth 1000000
set_option maxHeartbeats 20000000
set_option linter.unusedVariables false
set_option linter.unusedSimpArgs false
noncomputable def Y2:List (Nat×(List PV→Option PV)):= [(86,I1 rj),(87,I2 mz),(32,BM eO)]
theorem Y3(W:World)(Φ:Nat→cg)(sO: ∀i b c,Φ i≠ .blk b c)(hm: ∃m,W.cell? ⟨1,0,none⟩=some (.int .i64 m)):nS Go.Proofs.Tryz.prog (FP Y2) W Φ:=M8 fun x hx=>by
 simp only [Y2,List.mem_cons,List.not_mem_nil,or_false] at hx
 rcases hx with rfl | rfl | rfl
 ·exact M_ (iY (by kernel_rfl)) (fun s c w h1 h2 h3=>Any.strings_Trim_laid Go.Proofs.Tryz.Vd (by kernel_rfl) s c w h1 h2 h3)
 ·exact I4 1 (fun i c=>sO i 1 c) hm (iY (by kernel_rfl)) (fun s sep m w h1 h2 h3=>Go.Proofs.Tryz.strings_Split s sep m w h1 h2 h3)
 ·exact wF 1 (fun i c=>sO i 1 c) hm (iY (by kernel_rfl)) (fun s o n m w h1 h2 h3 h4=>Go.Proofs.Tryz.strings_ReplaceAll s o n m w h1 h2 h3 h4)
noncomputable def ovK:List (Nat×aK):= [(71,c71)]
theorem avB{br:List Nat}: ∀x∈ovK,wQ Go.Proofs.Tryz.prog br x.1 x.2:=fun x hx=>by
 simp only [ovK,List.mem_cons,List.not_mem_nil,or_false] at hx
 rcases hx with rfl
 ·have h:=aF ZB;exact h
theorem avC:EC [54] (Pb [86,87,32] (HL ovK (Mp.Q9 [15,41,42,44,47,49,52,72,74,77,81,89,96,98,100,103,104,100107,112,113,115,116,134,135,139,140,141,142,144,146,149,153,154,200155,155,159,160,178,179,180,181,182,183,184,187,188,189,190,191,196,206,207,209,212,213,215,217,219,221,222,223,224,227,228,229,230,232,239,241,243,244,246,247,249,250,251,252,254,273,300213] (Pa Go.Proofs.Tryz.prog [15,41,42,44,47,49,52,72,74,77,81,89,96,98,100,103,104,100107,112,113,115,116,134,135,139,140,141,142,144,146,149,153,154,200155,155,159,160,178,179,180,181,182,183,184,187,188,189,190,191,196,206,207,209,212,213,215,217,219,221,222,223,224,227,228,229,230,232,239,241,243,244,246,247,249,250,251,252,254,273,300213] [39,40,70] [89,116,212,215,217,221,222,223,227,239,243,244,246,247,249,250,252])))) (FP Y2) 1000 40 6 [] []=some (.d (.bool true),[]):=by kernel_rfl
end Go.Proofs.YtimbfadnabfabaaGreatDoor.Pm
