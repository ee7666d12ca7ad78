/- The laws out of their typed functions. Printed by dec.py. -/
import Derived.Test.YtobkkblijfhpoaaGreatDoorPb
import Derived.Test.YtobkkblijfhpoaaGreatDoorDCpM
import Derived.Test.YtobkkblijfhpoaaGreatDoorDCpL
namespace Go.Proofs.YtobkkblijfhpoaaGreatDoor.Pm
set_option maxRecDepth 1000000
set_option maxHeartbeats 20000000
set_option linter.unusedVariables false
set_option linter.unusedSimpArgs false
open Go.Proofs.YtobkkblijfhpoaaGreatDoor.Args
open Go.ChangeShapes Go.WideShapes Go.ChangeAt Go.RowKit
theorem Dn(m:Option Nat)(H: ∀(a1:Int) (a2:Int) (a3:List UInt8),(Lit.int .i64 a1).wf=true→(Lit.int .i64 a2).wf=true→(a3.length≤maxLen∧HY m a3.length 1)→f4 a1 a2 a3=some true)
  (v0:Value) (v1:Value) (v2:Value) (w:World) (h0:Arg m Go.Proofs.Tryz.prog w 3 v0) (h1:Arg m Go.Proofs.Tryz.prog w 3 v1) (h2:Arg m Go.Proofs.Tryz.prog w 9 v2) (hm: ∃m,w.cell? ⟨0,0,none⟩=some (.int .i64 m)):Calls Go.Proofs.Tryz.prog 4 #[v0,v1,v2] w fun e w'=>e= .returned (.bool true)∧Below w.heap.size w w':=by
 obtain ⟨x0,y0,r0⟩:=(TB (P:=Go.Proofs.Tryz.prog) (t:=3) (k:= .i64) rfl rfl).op m w _ h0.1
 obtain ⟨n0,rfl,_⟩:=h0.int rfl
 obtain ⟨u0,_,e0,r0,q0⟩:=r0
 cases q0;cases e0
 obtain ⟨x1,y1,r1⟩:=(TB (P:=Go.Proofs.Tryz.prog) (t:=3) (k:= .i64) rfl rfl).op m w _ h1.1
 obtain ⟨n1,rfl,_⟩:=h1.int rfl
 obtain ⟨u1,_,e1,r1,q1⟩:=r1
 cases q1;cases e1
 obtain ⟨x2,y2,r2⟩:=(ako (P:=Go.Proofs.Tryz.prog) (t:=9) rfl rfl).op m w _ h2.1
 obtain ⟨n2,rfl,_⟩:=h2.string rfl
 obtain ⟨u2,_,e2,r2,q2⟩:=r2
 cases q2;cases e2
 exact XQ (aar _ _ (fun _ _ _ h=>by cases h) hm) lg (ay7 16 (Nat.le_refl _) x0 x1 x2 true (H x0 x1 x2 y0 y1 y2)) ⟨_,_,rfl,r0,⟨_,_,rfl,r1,⟨_,_,rfl,r2,rfl⟩⟩⟩
end Go.Proofs.YtobkkblijfhpoaaGreatDoor.Pm
