/- The laws out of their typed functions. Printed by dec.py. -/
import Derived.Test.YtimbfadnabfabaaGreatDoorPb
import Derived.Test.YtimbfadnabfabaaGreatDoorDMoO
import Derived.Test.YtimbfadnabfabaaGreatDoorDMoL
namespace Go.Proofs.YtimbfadnabfabaaGreatDoor.Pm
set_option maxRecDepth 1000000
set_option maxHeartbeats 20000000
set_option linter.unusedVariables false
set_option linter.unusedSimpArgs false
open Go.Proofs.YtimbfadnabfabaaGreatDoor.Args
open Go.ChangeShapes Go.WideShapes Go.ChangeAt Go.RowKit
def V23(m:Option Nat)(x:jY):Prop:=(Lit.int .i64 x.Mode).wf=true∧(Lit.int .i64 x.GQ).wf=true∧(Lit.int .i64 x.BN).wf=true∧(x.pM.length≤maxLen∧gR m x.pM.length 1)∧True
theorem aAn:kM Go.Proofs.Tryz.prog 23 Sy V23:=⟨fun m w cs h=>by
 obtain ⟨hl,hf⟩:=h.struct rfl
 obtain ⟨x0,v0,r0⟩:=(di (P:=Go.Proofs.Tryz.prog) (t:=3) (k:= .i64) rfl rfl).field hf 0 _ rfl rfl
 obtain ⟨x1,v1,r1⟩:=(di (P:=Go.Proofs.Tryz.prog) (t:=3) (k:= .i64) rfl rfl).field hf 1 _ rfl rfl
 obtain ⟨x2,v2,r2⟩:=(di (P:=Go.Proofs.Tryz.prog) (t:=3) (k:= .i64) rfl rfl).field hf 2 _ rfl rfl
 obtain ⟨x3,v3,r3⟩:=(lB (P:=Go.Proofs.Tryz.prog) (t:=9) rfl rfl).field hf 3 _ rfl rfl
 obtain ⟨x4,v4,r4⟩:=(kN (P:=Go.Proofs.Tryz.prog) (t:=4) rfl rfl).field hf 4 _ rfl rfl
 refine ⟨⟨x0,x1,x2,x3,x4⟩,⟨v0,v1,v2,v3,v4⟩,?_⟩
 have hz:cI w [] (cs.drop 5):=List.drop_eq_nil_of_le (Nat.le_of_eq (hl.trans rfl))
 exact (List.drop_zero (l:=cs))▸((bD (o:=0) r0 (bD (o:=1) r1 (bD (o:=2) r2 (bD (o:=3) r3 (bD (o:=4) r4 hz))))):cI w _ (cs.drop 0)),rfl⟩
def V25(m:Option Nat)(x:aR):Prop:=(Lit.int .i64 x.State).wf=true∧(Lit.int .i64 x.Mark).wf=true∧(x.Inter.length≤maxLen∧gR m x.Inter.length 1)∧(x.Args.length≤maxLen∧gR m x.Args.length 1)∧(x.Text.length≤maxLen∧gR m x.Text.length 1)
theorem aAo:kM Go.Proofs.Tryz.prog 25 I7 V25:=⟨fun m w cs h=>by
 obtain ⟨hl,hf⟩:=h.struct rfl
 obtain ⟨x0,v0,r0⟩:=(di (P:=Go.Proofs.Tryz.prog) (t:=3) (k:= .i64) rfl rfl).field hf 0 _ rfl rfl
 obtain ⟨x1,v1,r1⟩:=(di (P:=Go.Proofs.Tryz.prog) (t:=3) (k:= .i64) rfl rfl).field hf 1 _ rfl rfl
 obtain ⟨x2,v2,r2⟩:=(lB (P:=Go.Proofs.Tryz.prog) (t:=9) rfl rfl).field hf 2 _ rfl rfl
 obtain ⟨x3,v3,r3⟩:=(lB (P:=Go.Proofs.Tryz.prog) (t:=9) rfl rfl).field hf 3 _ rfl rfl
 obtain ⟨x4,v4,r4⟩:=(lB (P:=Go.Proofs.Tryz.prog) (t:=9) rfl rfl).field hf 4 _ rfl rfl
 refine ⟨⟨x0,x1,x2,x3,x4⟩,⟨v0,v1,v2,v3,v4⟩,?_⟩
 have hz:cI w [] (cs.drop 5):=List.drop_eq_nil_of_le (Nat.le_of_eq (hl.trans rfl))
 exact (List.drop_zero (l:=cs))▸((bD (o:=0) r0 (bD (o:=1) r1 (bD (o:=2) r2 (bD (o:=3) r3 (bD (o:=4) r4 hz))))):cI w _ (cs.drop 0)),rfl⟩
def V30(m:Option Nat)(x:bw):Prop:=(Lit.int .i64 x.Flags).wf=true∧(Lit.int .i64 x.eK).wf=true∧(Lit.int .i64 x.dV).wf=true
theorem Y5:kM Go.Proofs.Tryz.prog 30 kP V30:=⟨fun m w cs h=>by
 obtain ⟨hl,hf⟩:=h.struct rfl
 obtain ⟨x0,v0,r0⟩:=(di (P:=Go.Proofs.Tryz.prog) (t:=3) (k:= .i64) rfl rfl).field hf 0 _ rfl rfl
 obtain ⟨x1,v1,r1⟩:=(di (P:=Go.Proofs.Tryz.prog) (t:=3) (k:= .i64) rfl rfl).field hf 1 _ rfl rfl
 obtain ⟨x2,v2,r2⟩:=(di (P:=Go.Proofs.Tryz.prog) (t:=3) (k:= .i64) rfl rfl).field hf 2 _ rfl rfl
 refine ⟨⟨x0,x1,x2⟩,⟨v0,v1,v2⟩,?_⟩
 have hz:cI w [] (cs.drop 3):=List.drop_eq_nil_of_le (Nat.le_of_eq (hl.trans rfl))
 exact (List.drop_zero (l:=cs))▸((bD (o:=0) r0 (bD (o:=1) r1 (bD (o:=2) r2 hz))):cI w _ (cs.drop 0)),rfl⟩
def V87(m:Option Nat)(x:ah):Prop:=(Lit.int .i64 x.eC).wf=true∧V30 m x.cz
theorem apt:kM Go.Proofs.Tryz.prog 87 ak V87:=⟨fun m w cs h=>by
 obtain ⟨hl,hf⟩:=h.struct rfl
 obtain ⟨x0,v0,r0⟩:=(di (P:=Go.Proofs.Tryz.prog) (t:=3) (k:= .i64) rfl rfl).field hf 0 _ rfl rfl
 obtain ⟨x1,v1,r1⟩:=Y5.field hf 1 _ rfl rfl
 refine ⟨⟨x0,x1⟩,⟨v0,v1⟩,?_⟩
 have hz:cI w [] (cs.drop 4):=List.drop_eq_nil_of_le (Nat.le_of_eq (hl.trans rfl))
 exact (List.drop_zero (l:=cs))▸((bD (o:=0) r0 (bD (o:=1) r1 hz)):cI w _ (cs.drop 0)),rfl⟩
def V28(m:Option Nat)(x:bQ):Prop:=(Lit.int .i64 x.bR).wf=true∧(Lit.int .i64 x.bV).wf=true∧(gR m x.Cells.length (Go.Proofs.Tryz.prog.bytesOf 87)∧ ∀y∈x.Cells,V87 m y)
theorem apu:kM Go.Proofs.Tryz.prog 28 I8 V28:=⟨fun m w cs h=>by
 obtain ⟨hl,hf⟩:=h.struct rfl
 obtain ⟨x0,v0,r0⟩:=(di (P:=Go.Proofs.Tryz.prog) (t:=3) (k:= .i64) rfl rfl).field hf 0 _ rfl rfl
 obtain ⟨x1,v1,r1⟩:=(di (P:=Go.Proofs.Tryz.prog) (t:=3) (k:= .i64) rfl rfl).field hf 1 _ rfl rfl
 obtain ⟨x2,v2,r2⟩:=(C2 (P:=Go.Proofs.Tryz.prog) (t:=26) (e:=87) rfl rfl apt (Nat.le_of_ble_eq_true rfl)).field hf 2 _ rfl rfl
 refine ⟨⟨x0,x1,x2⟩,⟨v0,v1,v2⟩,?_⟩
 have hz:cI w [] (cs.drop 3):=List.drop_eq_nil_of_le (Nat.le_of_eq (hl.trans rfl))
 exact (List.drop_zero (l:=cs))▸((bD (o:=0) r0 (bD (o:=1) r1 (bD (o:=2) r2 hz))):cI w _ (cs.drop 0)),rfl⟩
def FB:cT bq:=(gG (gF bq.Bits (Ay 4 (cE .u64))) I0)
def V34(m:Option Nat)(x:bq):Prop:=(∀i,i<4→(Lit.int .u64 (x.Bits i)).wf=true)
theorem aAr:kM Go.Proofs.Tryz.prog 34 FB V34:=⟨fun m w cs h=>by
 obtain ⟨hl,hf⟩:=h.struct rfl
 obtain ⟨x0,v0,r0⟩:=(oV (P:=Go.Proofs.Tryz.prog) (t:=32) (e:=31) rfl (di (P:=Go.Proofs.Tryz.prog) (t:=31) (k:= .u64) rfl rfl) rfl).field hf 0 _ rfl rfl
 refine ⟨⟨x0⟩,v0,?_⟩
 have hz:cI w [] (cs.drop 4):=List.drop_eq_nil_of_le (Nat.le_of_eq (hl.trans rfl))
 exact (List.drop_zero (l:=cs))▸((bD (o:=0) r0 hz):cI w _ (cs.drop 0)),rfl⟩
def V37(m:Option Nat)(x:sX):Prop:=(Lit.int .i64 x.Row).wf=true∧(Lit.int .i64 x.cQ).wf=true∧V30 m x.cz∧True∧((Lit.int .i64 x.bF.1).wf=true∧(Lit.int .i64 x.bF.2).wf=true)∧(Lit.int .i64 x.cN).wf=true
theorem aAs:kM Go.Proofs.Tryz.prog 37 Nb V37:=⟨fun m w cs h=>by
 obtain ⟨hl,hf⟩:=h.struct rfl
 obtain ⟨x0,v0,r0⟩:=(di (P:=Go.Proofs.Tryz.prog) (t:=3) (k:= .i64) rfl rfl).field hf 0 _ rfl rfl
 obtain ⟨x1,v1,r1⟩:=(di (P:=Go.Proofs.Tryz.prog) (t:=3) (k:= .i64) rfl rfl).field hf 1 _ rfl rfl
 obtain ⟨x2,v2,r2⟩:=Y5.field hf 2 _ rfl rfl
 obtain ⟨x3,v3,r3⟩:=(kN (P:=Go.Proofs.Tryz.prog) (t:=4) rfl rfl).field hf 3 _ rfl rfl
 obtain ⟨x4,v4,r4⟩:=(Sm (P:=Go.Proofs.Tryz.prog) (t:=35) (e:=3) rfl (di (P:=Go.Proofs.Tryz.prog) (t:=3) (k:= .i64) rfl rfl) rfl:kM Go.Proofs.Tryz.prog 35 ry _).field hf 4 _ rfl rfl
 obtain ⟨x5,v5,r5⟩:=(di (P:=Go.Proofs.Tryz.prog) (t:=3) (k:= .i64) rfl rfl).field hf 5 _ rfl rfl
 refine ⟨⟨x0,x1,x2,x3,x4,x5⟩,⟨v0,v1,v2,v3,v4,v5⟩,?_⟩
 have hz:cI w [] (cs.drop 9):=List.drop_eq_nil_of_le (Nat.le_of_eq (hl.trans rfl))
 exact (List.drop_zero (l:=cs))▸((bD (o:=0) r0 (bD (o:=1) r1 (bD (o:=2) r2 (bD (o:=5) r3 (bD (o:=6) r4 (bD (o:=8) r5 hz)))))):cI w _ (cs.drop 0)),rfl⟩
def aw9(m:Option Nat)(x:bY):Prop:=(gR m x.Cells.length (Go.Proofs.Tryz.prog.bytesOf 87)∧ ∀y∈x.Cells,V87 m y)
theorem avE:kM Go.Proofs.Tryz.prog 111 b_ aw9:=⟨fun m w cs h=>by
 obtain ⟨hl,hf⟩:=h.struct rfl
 obtain ⟨x0,v0,r0⟩:=(C2 (P:=Go.Proofs.Tryz.prog) (t:=26) (e:=87) rfl rfl apt (Nat.le_of_ble_eq_true rfl)).field hf 0 _ rfl rfl
 refine ⟨⟨x0⟩,v0,?_⟩
 have hz:cI w [] (cs.drop 1):=List.drop_eq_nil_of_le (Nat.le_of_eq (hl.trans rfl))
 exact (List.drop_zero (l:=cs))▸((bD (o:=0) r0 hz):cI w _ (cs.drop 0)),rfl⟩
def Cw:cT aA:=(gG (gF aA.aG I8) (gG (gF aA.Row (cE .i64)) (gG (gF aA.cQ (cE .i64)) (gG (gF aA.eV O1) (gG (gF aA.jx (cE .i64)) (gG (gF aA.cZ (cE .i64)) (gG (gF aA.cz kP) (gG (gF aA.dO (cE .i64)) (gG (gF aA.gN FB) (gG (gF aA.bF ry) (gG (gF aA.cN (cE .i64)) (gG (gF aA.aS Nb) (gG (gF aA.aT I8) (gG (gF aA.gZ dM) (gG (gF aA.bn (ij b_)) I0)))))))))))))))
def V40(m:Option Nat)(x:aA):Prop:=V28 m x.aG∧(Lit.int .i64 x.Row).wf=true∧(Lit.int .i64 x.cQ).wf=true∧True∧(Lit.int .i64 x.jx).wf=true∧(Lit.int .i64 x.cZ).wf=true∧V30 m x.cz∧(Lit.int .i64 x.dO).wf=true∧V34 m x.gN∧((Lit.int .i64 x.bF.1).wf=true∧(Lit.int .i64 x.bF.2).wf=true)∧(Lit.int .i64 x.cN).wf=true∧V37 m x.aS∧V28 m x.aT∧(x.gZ.length≤maxLen∧gR m x.gZ.length 1)∧(gR m x.bn.length (Go.Proofs.Tryz.prog.bytesOf 111)∧ ∀y∈x.bn,aw9 m y)
theorem aAt:kM Go.Proofs.Tryz.prog 40 Cw V40:=⟨fun m w cs h=>by
 obtain ⟨hl,hf⟩:=h.struct rfl
 obtain ⟨x0,v0,r0⟩:=apu.field hf 0 _ rfl rfl
 obtain ⟨x1,v1,r1⟩:=(di (P:=Go.Proofs.Tryz.prog) (t:=3) (k:= .i64) rfl rfl).field hf 1 _ rfl rfl
 obtain ⟨x2,v2,r2⟩:=(di (P:=Go.Proofs.Tryz.prog) (t:=3) (k:= .i64) rfl rfl).field hf 2 _ rfl rfl
 obtain ⟨x3,v3,r3⟩:=(kN (P:=Go.Proofs.Tryz.prog) (t:=4) rfl rfl).field hf 3 _ rfl rfl
 obtain ⟨x4,v4,r4⟩:=(di (P:=Go.Proofs.Tryz.prog) (t:=3) (k:= .i64) rfl rfl).field hf 4 _ rfl rfl
 obtain ⟨x5,v5,r5⟩:=(di (P:=Go.Proofs.Tryz.prog) (t:=3) (k:= .i64) rfl rfl).field hf 5 _ rfl rfl
 obtain ⟨x6,v6,r6⟩:=Y5.field hf 6 _ rfl rfl
 obtain ⟨x7,v7,r7⟩:=(di (P:=Go.Proofs.Tryz.prog) (t:=3) (k:= .i64) rfl rfl).field hf 7 _ rfl rfl
 obtain ⟨x8,v8,r8⟩:=aAr.field hf 8 _ rfl rfl
 obtain ⟨x9,v9,r9⟩:=(Sm (P:=Go.Proofs.Tryz.prog) (t:=35) (e:=3) rfl (di (P:=Go.Proofs.Tryz.prog) (t:=3) (k:= .i64) rfl rfl) rfl:kM Go.Proofs.Tryz.prog 35 ry _).field hf 9 _ rfl rfl
 obtain ⟨x10,v10,r10⟩:=(di (P:=Go.Proofs.Tryz.prog) (t:=3) (k:= .i64) rfl rfl).field hf 10 _ rfl rfl
 obtain ⟨x11,v11,r11⟩:=aAs.field hf 11 _ rfl rfl
 obtain ⟨x12,v12,r12⟩:=apu.field hf 12 _ rfl rfl
 obtain ⟨x13,v13,r13⟩:=(lB (P:=Go.Proofs.Tryz.prog) (t:=9) rfl rfl).field hf 13 _ rfl rfl
 obtain ⟨x14,v14,r14⟩:=(C2 (P:=Go.Proofs.Tryz.prog) (t:=38) (e:=111) rfl rfl avE (Nat.le_of_ble_eq_true rfl)).field hf 14 _ rfl rfl
 refine ⟨⟨x0,x1,x2,x3,x4,x5,x6,x7,x8,x9,x10,x11,x12,x13,x14⟩,⟨v0,v1,v2,v3,v4,v5,v6,v7,v8,v9,v10,v11,v12,v13,v14⟩,?_⟩
 have hz:cI w [] (cs.drop 33):=List.drop_eq_nil_of_le (Nat.le_of_eq (hl.trans rfl))
 exact (List.drop_zero (l:=cs))▸((bD (o:=0) r0 (bD (o:=3) r1 (bD (o:=4) r2 (bD (o:=5) r3 (bD (o:=6) r4 (bD (o:=7) r5 (bD (o:=8) r6 (bD (o:=11) r7 (bD (o:=12) r8 (bD (o:=16) r9 (bD (o:=18) r10 (bD (o:=19) r11 (bD (o:=28) r12 (bD (o:=31) r13 (bD (o:=32) r14 hz))))))))))))))):cI w _ (cs.drop 0)),rfl⟩
def Rc:cT eT:=(gG (gF eT.Us (Ay 256 cH)) (gG (gF eT.mK (Ay 256 cH)) (gG (gF eT.Az (Ay 4 (cE .u64))) (gG (gF eT.tH (Ay 4 (cE .u64))) I0))))
def V43(m:Option Nat)(x:eT):Prop:=(∀i,i<256→True)∧(∀i,i<256→True)∧(∀i,i<4→(Lit.int .u64 (x.Az i)).wf=true)∧(∀i,i<4→(Lit.int .u64 (x.tH i)).wf=true)
theorem aAy:kM Go.Proofs.Tryz.prog 43 Rc V43:=⟨fun m w cs h=>by
 obtain ⟨hl,hf⟩:=h.struct rfl
 obtain ⟨x0,v0,r0⟩:=(oV (P:=Go.Proofs.Tryz.prog) (t:=41) (e:=5) rfl (G_ (P:=Go.Proofs.Tryz.prog) (t:=5) rfl rfl) rfl).field hf 0 _ rfl rfl
 obtain ⟨x1,v1,r1⟩:=(oV (P:=Go.Proofs.Tryz.prog) (t:=41) (e:=5) rfl (G_ (P:=Go.Proofs.Tryz.prog) (t:=5) rfl rfl) rfl).field hf 1 _ rfl rfl
 obtain ⟨x2,v2,r2⟩:=(oV (P:=Go.Proofs.Tryz.prog) (t:=32) (e:=31) rfl (di (P:=Go.Proofs.Tryz.prog) (t:=31) (k:= .u64) rfl rfl) rfl).field hf 2 _ rfl rfl
 obtain ⟨x3,v3,r3⟩:=(oV (P:=Go.Proofs.Tryz.prog) (t:=32) (e:=31) rfl (di (P:=Go.Proofs.Tryz.prog) (t:=31) (k:= .u64) rfl rfl) rfl).field hf 3 _ rfl rfl
 refine ⟨⟨x0,x1,x2,x3⟩,⟨v0,v1,v2,v3⟩,?_⟩
 have hz:cI w [] (cs.drop 520):=List.drop_eq_nil_of_le (Nat.le_of_eq (hl.trans rfl))
 exact (List.drop_zero (l:=cs))▸((bD (o:=0) r0 (bD (o:=256) r1 (bD (o:=512) r2 (bD (o:=516) r3 hz)))):cI w _ (cs.drop 0)),rfl⟩
def V46(m:Option Nat)(x:cu):Prop:=(gR m x.Names.length (Go.Proofs.Tryz.prog.bytesOf 9)∧ ∀y∈x.Names,(y.length≤maxLen∧gR m y.length 1))∧(Lit.int .i64 x.At).wf=true
theorem aAz:kM Go.Proofs.Tryz.prog 46 Nc V46:=⟨fun m w cs h=>by
 obtain ⟨hl,hf⟩:=h.struct rfl
 obtain ⟨x0,v0,r0⟩:=(C2 (P:=Go.Proofs.Tryz.prog) (t:=44) (e:=9) rfl rfl (lB (P:=Go.Proofs.Tryz.prog) (t:=9) rfl rfl) (Nat.le_of_ble_eq_true rfl)).field hf 0 _ rfl rfl
 obtain ⟨x1,v1,r1⟩:=(di (P:=Go.Proofs.Tryz.prog) (t:=3) (k:= .i64) rfl rfl).field hf 1 _ rfl rfl
 refine ⟨⟨x0,x1⟩,⟨v0,v1⟩,?_⟩
 have hz:cI w [] (cs.drop 2):=List.drop_eq_nil_of_le (Nat.le_of_eq (hl.trans rfl))
 exact (List.drop_zero (l:=cs))▸((bD (o:=0) r0 (bD (o:=1) r1 hz)):cI w _ (cs.drop 0)),rfl⟩
def aw_(m:Option Nat)(x:dD):Prop:=(x.Name.length≤maxLen∧gR m x.Name.length 1)∧(x.Value.length≤maxLen∧gR m x.Value.length 1)∧True∧True
theorem avF:kM Go.Proofs.Tryz.prog 118 cW aw_:=⟨fun m w cs h=>by
 obtain ⟨hl,hf⟩:=h.struct rfl
 obtain ⟨x0,v0,r0⟩:=(lB (P:=Go.Proofs.Tryz.prog) (t:=9) rfl rfl).field hf 0 _ rfl rfl
 obtain ⟨x1,v1,r1⟩:=(lB (P:=Go.Proofs.Tryz.prog) (t:=9) rfl rfl).field hf 1 _ rfl rfl
 obtain ⟨x2,v2,r2⟩:=(kN (P:=Go.Proofs.Tryz.prog) (t:=4) rfl rfl).field hf 2 _ rfl rfl
 obtain ⟨x3,v3,r3⟩:=(kN (P:=Go.Proofs.Tryz.prog) (t:=4) rfl rfl).field hf 3 _ rfl rfl
 refine ⟨⟨x0,x1,x2,x3⟩,⟨v0,v1,v2,v3⟩,?_⟩
 have hz:cI w [] (cs.drop 4):=List.drop_eq_nil_of_le (Nat.le_of_eq (hl.trans rfl))
 exact (List.drop_zero (l:=cs))▸((bD (o:=0) r0 (bD (o:=1) r1 (bD (o:=2) r2 (bD (o:=3) r3 hz)))):cI w _ (cs.drop 0)),rfl⟩
def Ld:cT g_:=(gG (gF g_.iZ (Ay 19 cH)) (gG (gF g_.rq (Ay 19 cH)) I0))
def V50(m:Option Nat)(x:g_):Prop:=(∀i,i<19→True)∧(∀i,i<19→True)
theorem aAA:kM Go.Proofs.Tryz.prog 50 Ld V50:=⟨fun m w cs h=>by
 obtain ⟨hl,hf⟩:=h.struct rfl
 obtain ⟨x0,v0,r0⟩:=(oV (P:=Go.Proofs.Tryz.prog) (t:=48) (e:=5) rfl (G_ (P:=Go.Proofs.Tryz.prog) (t:=5) rfl rfl) rfl).field hf 0 _ rfl rfl
 obtain ⟨x1,v1,r1⟩:=(oV (P:=Go.Proofs.Tryz.prog) (t:=48) (e:=5) rfl (G_ (P:=Go.Proofs.Tryz.prog) (t:=5) rfl rfl) rfl).field hf 1 _ rfl rfl
 refine ⟨⟨x0,x1⟩,⟨v0,v1⟩,?_⟩
 have hz:cI w [] (cs.drop 38):=List.drop_eq_nil_of_le (Nat.le_of_eq (hl.trans rfl))
 exact (List.drop_zero (l:=cs))▸((bD (o:=0) r0 (bD (o:=19) r1 hz)):cI w _ (cs.drop 0)),rfl⟩
def Le:cT I6:=(gG (gF I6.Bits (Ay 4 (cE .u64))) I0)
def V51(m:Option Nat)(x:I6):Prop:=(∀i,i<4→(Lit.int .u64 (x.Bits i)).wf=true)
theorem aAB:kM Go.Proofs.Tryz.prog 51 Le V51:=⟨fun m w cs h=>by
 obtain ⟨hl,hf⟩:=h.struct rfl
 obtain ⟨x0,v0,r0⟩:=(oV (P:=Go.Proofs.Tryz.prog) (t:=32) (e:=31) rfl (di (P:=Go.Proofs.Tryz.prog) (t:=31) (k:= .u64) rfl rfl) rfl).field hf 0 _ rfl rfl
 refine ⟨⟨x0⟩,v0,?_⟩
 have hz:cI w [] (cs.drop 4):=List.drop_eq_nil_of_le (Nat.le_of_eq (hl.trans rfl))
 exact (List.drop_zero (l:=cs))▸((bD (o:=0) r0 hz):cI w _ (cs.drop 0)),rfl⟩
def V53(m:Option Nat)(x:ru):Prop:=(x.pM.length≤maxLen∧gR m x.pM.length 1)∧True
theorem aAC:kM Go.Proofs.Tryz.prog 53 I9 V53:=⟨fun m w cs h=>by
 obtain ⟨hl,hf⟩:=h.struct rfl
 obtain ⟨x0,v0,r0⟩:=(lB (P:=Go.Proofs.Tryz.prog) (t:=9) rfl rfl).field hf 0 _ rfl rfl
 obtain ⟨x1,v1,r1⟩:=(kN (P:=Go.Proofs.Tryz.prog) (t:=4) rfl rfl).field hf 1 _ rfl rfl
 refine ⟨⟨x0,x1⟩,⟨v0,v1⟩,?_⟩
 have hz:cI w [] (cs.drop 2):=List.drop_eq_nil_of_le (Nat.le_of_eq (hl.trans rfl))
 exact (List.drop_zero (l:=cs))▸((bD (o:=0) r0 (bD (o:=1) r1 hz)):cI w _ (cs.drop 0)),rfl⟩
def Lf:cT bg:=(gG (gF bg.iF Sy) (gG (gF bg.Cr O1) (gG (gF bg.Part dM) (gG (gF bg.dX I7) (gG (gF bg.af Cw) (gG (gF bg.Neg Rc) (gG (gF bg.bL Nc) (gG (gF bg.Vars (ij cW)) (gG (gF bg.Keys Ld) (gG (gF bg.Mask Le) (gG (gF bg.gS I9) (gG (gF bg.lF O1) I0))))))))))))
def V55(m:Option Nat)(x:bg):Prop:=V23 m x.iF∧True∧(x.Part.length≤maxLen∧gR m x.Part.length 1)∧V25 m x.dX∧V40 m x.af∧V43 m x.Neg∧V46 m x.bL∧(gR m x.Vars.length (Go.Proofs.Tryz.prog.bytesOf 118)∧ ∀y∈x.Vars,aw_ m y)∧V50 m x.Keys∧V51 m x.Mask∧V53 m x.gS∧True
theorem aAE:kM Go.Proofs.Tryz.prog 55 Lf V55:=⟨fun m w cs h=>by
 obtain ⟨hl,hf⟩:=h.struct rfl
 obtain ⟨x0,v0,r0⟩:=aAn.field hf 0 _ rfl rfl
 obtain ⟨x1,v1,r1⟩:=(kN (P:=Go.Proofs.Tryz.prog) (t:=4) rfl rfl).field hf 1 _ rfl rfl
 obtain ⟨x2,v2,r2⟩:=(lB (P:=Go.Proofs.Tryz.prog) (t:=9) rfl rfl).field hf 2 _ rfl rfl
 obtain ⟨x3,v3,r3⟩:=aAo.field hf 3 _ rfl rfl
 obtain ⟨x4,v4,r4⟩:=aAt.field hf 4 _ rfl rfl
 obtain ⟨x5,v5,r5⟩:=aAy.field hf 5 _ rfl rfl
 obtain ⟨x6,v6,r6⟩:=aAz.field hf 6 _ rfl rfl
 obtain ⟨x7,v7,r7⟩:=(C2 (P:=Go.Proofs.Tryz.prog) (t:=47) (e:=118) rfl rfl avF (Nat.le_of_ble_eq_true rfl)).field hf 7 _ rfl rfl
 obtain ⟨x8,v8,r8⟩:=aAA.field hf 8 _ rfl rfl
 obtain ⟨x9,v9,r9⟩:=aAB.field hf 9 _ rfl rfl
 obtain ⟨x10,v10,r10⟩:=aAC.field hf 10 _ rfl rfl
 obtain ⟨x11,v11,r11⟩:=(kN (P:=Go.Proofs.Tryz.prog) (t:=4) rfl rfl).field hf 11 _ rfl rfl
 refine ⟨⟨x0,x1,x2,x3,x4,x5,x6,x7,x8,x9,x10,x11⟩,⟨v0,v1,v2,v3,v4,v5,v6,v7,v8,v9,v10,v11⟩,?_⟩
 have hz:cI w [] (cs.drop 613):=List.drop_eq_nil_of_le (Nat.le_of_eq (hl.trans rfl))
 exact (List.drop_zero (l:=cs))▸((bD (o:=0) r0 (bD (o:=5) r1 (bD (o:=6) r2 (bD (o:=7) r3 (bD (o:=12) r4 (bD (o:=45) r5 (bD (o:=565) r6 (bD (o:=567) r7 (bD (o:=568) r8 (bD (o:=606) r9 (bD (o:=610) r10 (bD (o:=612) r11 hz)))))))))))):cI w _ (cs.drop 0)),rfl⟩
def V57(m:Option Nat)(x:dW):Prop:=(Lit.int .i64 x.Name).wf=true∧(Lit.int .i64 x.eC).wf=true∧(Lit.int .i64 x.eG).wf=true
theorem aAF:kM Go.Proofs.Tryz.prog 57 aqv V57:=⟨fun m w cs h=>by
 obtain ⟨hl,hf⟩:=h.struct rfl
 obtain ⟨x0,v0,r0⟩:=(di (P:=Go.Proofs.Tryz.prog) (t:=3) (k:= .i64) rfl rfl).field hf 0 _ rfl rfl
 obtain ⟨x1,v1,r1⟩:=(di (P:=Go.Proofs.Tryz.prog) (t:=3) (k:= .i64) rfl rfl).field hf 1 _ rfl rfl
 obtain ⟨x2,v2,r2⟩:=(di (P:=Go.Proofs.Tryz.prog) (t:=3) (k:= .i64) rfl rfl).field hf 2 _ rfl rfl
 refine ⟨⟨x0,x1,x2⟩,⟨v0,v1,v2⟩,?_⟩
 have hz:cI w [] (cs.drop 3):=List.drop_eq_nil_of_le (Nat.le_of_eq (hl.trans rfl))
 exact (List.drop_zero (l:=cs))▸((bD (o:=0) r0 (bD (o:=1) r1 (bD (o:=2) r2 hz))):cI w _ (cs.drop 0)),rfl⟩
def V59(m:Option Nat)(x:cK):Prop:=(Lit.int .i64 x.kO).wf=true∧(Lit.int .i64 x.cQ).wf=true∧(Lit.int .i64 x.Row).wf=true∧(Lit.int .i64 x.eG).wf=true∧True
theorem aAG:kM Go.Proofs.Tryz.prog 59 ad4 V59:=⟨fun m w cs h=>by
 obtain ⟨hl,hf⟩:=h.struct rfl
 obtain ⟨x0,v0,r0⟩:=(di (P:=Go.Proofs.Tryz.prog) (t:=3) (k:= .i64) rfl rfl).field hf 0 _ rfl rfl
 obtain ⟨x1,v1,r1⟩:=(di (P:=Go.Proofs.Tryz.prog) (t:=3) (k:= .i64) rfl rfl).field hf 1 _ rfl rfl
 obtain ⟨x2,v2,r2⟩:=(di (P:=Go.Proofs.Tryz.prog) (t:=3) (k:= .i64) rfl rfl).field hf 2 _ rfl rfl
 obtain ⟨x3,v3,r3⟩:=(di (P:=Go.Proofs.Tryz.prog) (t:=3) (k:= .i64) rfl rfl).field hf 3 _ rfl rfl
 obtain ⟨x4,v4,r4⟩:=(kN (P:=Go.Proofs.Tryz.prog) (t:=4) rfl rfl).field hf 4 _ rfl rfl
 refine ⟨⟨x0,x1,x2,x3,x4⟩,⟨v0,v1,v2,v3,v4⟩,?_⟩
 have hz:cI w [] (cs.drop 5):=List.drop_eq_nil_of_le (Nat.le_of_eq (hl.trans rfl))
 exact (List.drop_zero (l:=cs))▸((bD (o:=0) r0 (bD (o:=1) r1 (bD (o:=2) r2 (bD (o:=3) r3 (bD (o:=4) r4 hz))))):cI w _ (cs.drop 0)),rfl⟩
theorem G4(m:Option Nat)(H: ∀(a1:bg) (a2:dW) (a3:cK),V55 m a1→V57 m a2→V59 m a3→f3 a1 a2 a3=some true)
  (v0:Value) (v1:Value) (v2:Value) (w:World) (h0:Arg m Go.Proofs.Tryz.prog w 55 v0) (h1:Arg m Go.Proofs.Tryz.prog w 57 v1) (h2:Arg m Go.Proofs.Tryz.prog w 59 v2) (hm: ∃m,w.cell? ⟨1,0,none⟩=some (.int .i64 m)) (ht:Lib.TabIs Go.Proofs.Tryz.prog w "internal/strconv.uint64pow10" .u64 Lib.pow10Tab) (hu:Lib.Utf8Tabs 2 3 w):Calls Go.Proofs.Tryz.prog 3 #[v0,v1,v2] w fun e w'=>e= .returned (.bool true)∧Below w.heap.size w w':=by
 obtain ⟨c0,rfl,g0⟩:=h0.agg (.inl ⟨_,rfl⟩)
 obtain ⟨x0,y0,r0⟩:=aAE.op m w _ g0
 obtain ⟨c1,rfl,g1⟩:=h1.agg (.inl ⟨_,rfl⟩)
 obtain ⟨x1,y1,r1⟩:=aAF.op m w _ g1
 obtain ⟨c2,rfl,g2⟩:=h2.agg (.inl ⟨_,rfl⟩)
 obtain ⟨x2,y2,r2⟩:=aAG.op m w _ g2
 exact V4 (Y4 _ _ (fun _ _ _ h=>by cases h) hm ht hu) ad6 (azM (d:=17) (Nat.le_refl _) (H x0 x1 x2 y0 y1 y2)) ⟨_,_,rfl,⟨_,rfl,by have q:=r0.C1 (R:=fun _ _=>False);simp only [FB,Cw,Rc,Ld,Le,Lf,gG,gF,I0,List.map_append,adT,List.map_cons,List.map_nil,List.append_nil,List.cons_append,List.nil_append] at q;exact Eq.mp (by kernel_rfl) q⟩,⟨_,_,rfl,Sn r1,⟨_,_,rfl,Sn r2,rfl⟩⟩⟩
end Go.Proofs.YtimbfadnabfabaaGreatDoor.Pm
