/- The laws out of their typed functions. Printed by dec.py. -/
import Derived.Test.YtimbfadnabfabaaGreatDoorPb
import Derived.Test.YtimbfadnabfabaaGreatDoorDMoO
import Derived.Test.YtimbfadnabfabaaGreatDoorDMoL
namespace Go.Proofs.YtimbfadnabfabaaGreatDoor.Pm
set_option maxRecDepth 1000000
set_option maxHeartbeats 20000000
set_option linter.unusedVariables false
set_option linter.unusedSimpArgs false
open Go.Proofs.YtimbfadnabfabaaGreatDoor.Args
open Go.ChangeShapes Go.WideShapes Go.ChangeAt Go.RowKit
def V23(m:Option Nat)(x:kf):Prop:=(Lit.int .i64 x.Mode).wf=true∧(Lit.int .i64 x.FT).wf=true∧(Lit.int .i64 x.Bq).wf=true∧(x.oH.length≤maxLen∧gV m x.oH.length 1)∧True
theorem aBF:lO Go.Proofs.Tryz.prog 23 Tb V23:=⟨fun m w cs h=>by
 obtain ⟨hl,hf⟩:=h.struct rfl
 obtain ⟨x0,v0,r0⟩:=(dO (P:=Go.Proofs.Tryz.prog) (t:=3) (k:= .i64) rfl rfl).field hf 0 _ rfl rfl
 obtain ⟨x1,v1,r1⟩:=(dO (P:=Go.Proofs.Tryz.prog) (t:=3) (k:= .i64) rfl rfl).field hf 1 _ rfl rfl
 obtain ⟨x2,v2,r2⟩:=(dO (P:=Go.Proofs.Tryz.prog) (t:=3) (k:= .i64) rfl rfl).field hf 2 _ rfl rfl
 obtain ⟨x3,v3,r3⟩:=(l5 (P:=Go.Proofs.Tryz.prog) (t:=9) rfl rfl).field hf 3 _ rfl rfl
 obtain ⟨x4,v4,r4⟩:=(mS (P:=Go.Proofs.Tryz.prog) (t:=4) rfl rfl).field hf 4 _ rfl rfl
 refine ⟨⟨x0,x1,x2,x3,x4⟩,⟨v0,v1,v2,v3,v4⟩,?_⟩
 have hz:cO w [] (cs.drop 5):=List.drop_eq_nil_of_le (Nat.le_of_eq (hl.trans rfl))
 exact (List.drop_zero (l:=cs))▸((bJ (o:=0) r0 (bJ (o:=1) r1 (bJ (o:=2) r2 (bJ (o:=3) r3 (bJ (o:=4) r4 hz))))):cO w _ (cs.drop 0)),rfl⟩
def V25(m:Option Nat)(x:aS):Prop:=(Lit.int .i64 x.State).wf=true∧(Lit.int .i64 x.Mark).wf=true∧(x.Inter.length≤maxLen∧gV m x.Inter.length 1)∧(x.Args.length≤maxLen∧gV m x.Args.length 1)∧(x.Text.length≤maxLen∧gV m x.Text.length 1)
theorem aBG:lO Go.Proofs.Tryz.prog 25 J1 V25:=⟨fun m w cs h=>by
 obtain ⟨hl,hf⟩:=h.struct rfl
 obtain ⟨x0,v0,r0⟩:=(dO (P:=Go.Proofs.Tryz.prog) (t:=3) (k:= .i64) rfl rfl).field hf 0 _ rfl rfl
 obtain ⟨x1,v1,r1⟩:=(dO (P:=Go.Proofs.Tryz.prog) (t:=3) (k:= .i64) rfl rfl).field hf 1 _ rfl rfl
 obtain ⟨x2,v2,r2⟩:=(l5 (P:=Go.Proofs.Tryz.prog) (t:=9) rfl rfl).field hf 2 _ rfl rfl
 obtain ⟨x3,v3,r3⟩:=(l5 (P:=Go.Proofs.Tryz.prog) (t:=9) rfl rfl).field hf 3 _ rfl rfl
 obtain ⟨x4,v4,r4⟩:=(l5 (P:=Go.Proofs.Tryz.prog) (t:=9) rfl rfl).field hf 4 _ rfl rfl
 refine ⟨⟨x0,x1,x2,x3,x4⟩,⟨v0,v1,v2,v3,v4⟩,?_⟩
 have hz:cO w [] (cs.drop 5):=List.drop_eq_nil_of_le (Nat.le_of_eq (hl.trans rfl))
 exact (List.drop_zero (l:=cs))▸((bJ (o:=0) r0 (bJ (o:=1) r1 (bJ (o:=2) r2 (bJ (o:=3) r3 (bJ (o:=4) r4 hz))))):cO w _ (cs.drop 0)),rfl⟩
def V30(m:Option Nat)(x:bA):Prop:=(Lit.int .i64 x.Flags).wf=true∧(Lit.int .i64 x.dP).wf=true∧(Lit.int .i64 x.dm).wf=true
theorem ZH:lO Go.Proofs.Tryz.prog 30 k7 V30:=⟨fun m w cs h=>by
 obtain ⟨hl,hf⟩:=h.struct rfl
 obtain ⟨x0,v0,r0⟩:=(dO (P:=Go.Proofs.Tryz.prog) (t:=3) (k:= .i64) rfl rfl).field hf 0 _ rfl rfl
 obtain ⟨x1,v1,r1⟩:=(dO (P:=Go.Proofs.Tryz.prog) (t:=3) (k:= .i64) rfl rfl).field hf 1 _ rfl rfl
 obtain ⟨x2,v2,r2⟩:=(dO (P:=Go.Proofs.Tryz.prog) (t:=3) (k:= .i64) rfl rfl).field hf 2 _ rfl rfl
 refine ⟨⟨x0,x1,x2⟩,⟨v0,v1,v2⟩,?_⟩
 have hz:cO w [] (cs.drop 3):=List.drop_eq_nil_of_le (Nat.le_of_eq (hl.trans rfl))
 exact (List.drop_zero (l:=cs))▸((bJ (o:=0) r0 (bJ (o:=1) r1 (bJ (o:=2) r2 hz))):cO w _ (cs.drop 0)),rfl⟩
def V87(m:Option Nat)(x:ah):Prop:=(Lit.int .i64 x.eB).wf=true∧V30 m x.bP
theorem asv:lO Go.Proofs.Tryz.prog 87 aj V87:=⟨fun m w cs h=>by
 obtain ⟨hl,hf⟩:=h.struct rfl
 obtain ⟨x0,v0,r0⟩:=(dO (P:=Go.Proofs.Tryz.prog) (t:=3) (k:= .i64) rfl rfl).field hf 0 _ rfl rfl
 obtain ⟨x1,v1,r1⟩:=ZH.field hf 1 _ rfl rfl
 refine ⟨⟨x0,x1⟩,⟨v0,v1⟩,?_⟩
 have hz:cO w [] (cs.drop 4):=List.drop_eq_nil_of_le (Nat.le_of_eq (hl.trans rfl))
 exact (List.drop_zero (l:=cs))▸((bJ (o:=0) r0 (bJ (o:=1) r1 hz)):cO w _ (cs.drop 0)),rfl⟩
def V28(m:Option Nat)(x:bS):Prop:=(Lit.int .i64 x.bR).wf=true∧(Lit.int .i64 x.bW).wf=true∧(gV m x.Cells.length (Go.Proofs.Tryz.prog.bytesOf 87)∧ ∀y∈x.Cells,V87 m y)
theorem asw:lO Go.Proofs.Tryz.prog 28 J2 V28:=⟨fun m w cs h=>by
 obtain ⟨hl,hf⟩:=h.struct rfl
 obtain ⟨x0,v0,r0⟩:=(dO (P:=Go.Proofs.Tryz.prog) (t:=3) (k:= .i64) rfl rfl).field hf 0 _ rfl rfl
 obtain ⟨x1,v1,r1⟩:=(dO (P:=Go.Proofs.Tryz.prog) (t:=3) (k:= .i64) rfl rfl).field hf 1 _ rfl rfl
 obtain ⟨x2,v2,r2⟩:=(DL (P:=Go.Proofs.Tryz.prog) (t:=26) (e:=87) rfl rfl asv (Nat.le_of_ble_eq_true rfl)).field hf 2 _ rfl rfl
 refine ⟨⟨x0,x1,x2⟩,⟨v0,v1,v2⟩,?_⟩
 have hz:cO w [] (cs.drop 3):=List.drop_eq_nil_of_le (Nat.le_of_eq (hl.trans rfl))
 exact (List.drop_zero (l:=cs))▸((bJ (o:=0) r0 (bJ (o:=1) r1 (bJ (o:=2) r2 hz))):cO w _ (cs.drop 0)),rfl⟩
def Gt:cS bu:=(gM (gL bu.Bits (BC 4 (cu .u64))) JT)
def V34(m:Option Nat)(x:bu):Prop:=(∀i,i<4→(Lit.int .u64 (x.Bits i)).wf=true)
theorem aBJ:lO Go.Proofs.Tryz.prog 34 Gt V34:=⟨fun m w cs h=>by
 obtain ⟨hl,hf⟩:=h.struct rfl
 obtain ⟨x0,v0,r0⟩:=(pZ (P:=Go.Proofs.Tryz.prog) (t:=32) (e:=31) rfl (dO (P:=Go.Proofs.Tryz.prog) (t:=31) (k:= .u64) rfl rfl) rfl).field hf 0 _ rfl rfl
 refine ⟨⟨x0⟩,v0,?_⟩
 have hz:cO w [] (cs.drop 4):=List.drop_eq_nil_of_le (Nat.le_of_eq (hl.trans rfl))
 exact (List.drop_zero (l:=cs))▸((bJ (o:=0) r0 hz):cO w _ (cs.drop 0)),rfl⟩
def V37(m:Option Nat)(x:tM):Prop:=(Lit.int .i64 x.Row).wf=true∧(Lit.int .i64 x.cP).wf=true∧V30 m x.bP∧True∧((Lit.int .i64 x.bp.1).wf=true∧(Lit.int .i64 x.bp.2).wf=true)∧(Lit.int .i64 x.cC).wf=true
theorem aBK:lO Go.Proofs.Tryz.prog 37 NZ V37:=⟨fun m w cs h=>by
 obtain ⟨hl,hf⟩:=h.struct rfl
 obtain ⟨x0,v0,r0⟩:=(dO (P:=Go.Proofs.Tryz.prog) (t:=3) (k:= .i64) rfl rfl).field hf 0 _ rfl rfl
 obtain ⟨x1,v1,r1⟩:=(dO (P:=Go.Proofs.Tryz.prog) (t:=3) (k:= .i64) rfl rfl).field hf 1 _ rfl rfl
 obtain ⟨x2,v2,r2⟩:=ZH.field hf 2 _ rfl rfl
 obtain ⟨x3,v3,r3⟩:=(mS (P:=Go.Proofs.Tryz.prog) (t:=4) rfl rfl).field hf 3 _ rfl rfl
 obtain ⟨x4,v4,r4⟩:=(S0 (P:=Go.Proofs.Tryz.prog) (t:=35) (e:=3) rfl (dO (P:=Go.Proofs.Tryz.prog) (t:=3) (k:= .i64) rfl rfl) rfl:lO Go.Proofs.Tryz.prog 35 sw _).field hf 4 _ rfl rfl
 obtain ⟨x5,v5,r5⟩:=(dO (P:=Go.Proofs.Tryz.prog) (t:=3) (k:= .i64) rfl rfl).field hf 5 _ rfl rfl
 refine ⟨⟨x0,x1,x2,x3,x4,x5⟩,⟨v0,v1,v2,v3,v4,v5⟩,?_⟩
 have hz:cO w [] (cs.drop 9):=List.drop_eq_nil_of_le (Nat.le_of_eq (hl.trans rfl))
 exact (List.drop_zero (l:=cs))▸((bJ (o:=0) r0 (bJ (o:=1) r1 (bJ (o:=2) r2 (bJ (o:=5) r3 (bJ (o:=6) r4 (bJ (o:=8) r5 hz)))))):cO w _ (cs.drop 0)),rfl⟩
def ay6(m:Option Nat)(x:bF):Prop:=(gV m x.Cells.length (Go.Proofs.Tryz.prog.bytesOf 87)∧ ∀y∈x.Cells,V87 m y)
theorem axz:lO Go.Proofs.Tryz.prog 111 bE ay6:=⟨fun m w cs h=>by
 obtain ⟨hl,hf⟩:=h.struct rfl
 obtain ⟨x0,v0,r0⟩:=(DL (P:=Go.Proofs.Tryz.prog) (t:=26) (e:=87) rfl rfl asv (Nat.le_of_ble_eq_true rfl)).field hf 0 _ rfl rfl
 refine ⟨⟨x0⟩,v0,?_⟩
 have hz:cO w [] (cs.drop 1):=List.drop_eq_nil_of_le (Nat.le_of_eq (hl.trans rfl))
 exact (List.drop_zero (l:=cs))▸((bJ (o:=0) r0 hz):cO w _ (cs.drop 0)),rfl⟩
def Dg:cS aA:=(gM (gL aA.aG J2) (gM (gL aA.Row (cu .i64)) (gM (gL aA.cP (cu .i64)) (gM (gL aA.eK PT) (gM (gL aA.ji (cu .i64)) (gM (gL aA.cT (cu .i64)) (gM (gL aA.bP k7) (gM (gL aA.eE (cu .i64)) (gM (gL aA.eU Gt) (gM (gL aA.bp sw) (gM (gL aA.cC (cu .i64)) (gM (gL aA.aI NZ) (gM (gL aA.aT J2) (gM (gL aA.gz dN) (gM (gL aA.bn (ir bE)) JT)))))))))))))))
def V40(m:Option Nat)(x:aA):Prop:=V28 m x.aG∧(Lit.int .i64 x.Row).wf=true∧(Lit.int .i64 x.cP).wf=true∧True∧(Lit.int .i64 x.ji).wf=true∧(Lit.int .i64 x.cT).wf=true∧V30 m x.bP∧(Lit.int .i64 x.eE).wf=true∧V34 m x.eU∧((Lit.int .i64 x.bp.1).wf=true∧(Lit.int .i64 x.bp.2).wf=true)∧(Lit.int .i64 x.cC).wf=true∧V37 m x.aI∧V28 m x.aT∧(x.gz.length≤maxLen∧gV m x.gz.length 1)∧(gV m x.bn.length (Go.Proofs.Tryz.prog.bytesOf 111)∧ ∀y∈x.bn,ay6 m y)
theorem aBL:lO Go.Proofs.Tryz.prog 40 Dg V40:=⟨fun m w cs h=>by
 obtain ⟨hl,hf⟩:=h.struct rfl
 obtain ⟨x0,v0,r0⟩:=asw.field hf 0 _ rfl rfl
 obtain ⟨x1,v1,r1⟩:=(dO (P:=Go.Proofs.Tryz.prog) (t:=3) (k:= .i64) rfl rfl).field hf 1 _ rfl rfl
 obtain ⟨x2,v2,r2⟩:=(dO (P:=Go.Proofs.Tryz.prog) (t:=3) (k:= .i64) rfl rfl).field hf 2 _ rfl rfl
 obtain ⟨x3,v3,r3⟩:=(mS (P:=Go.Proofs.Tryz.prog) (t:=4) rfl rfl).field hf 3 _ rfl rfl
 obtain ⟨x4,v4,r4⟩:=(dO (P:=Go.Proofs.Tryz.prog) (t:=3) (k:= .i64) rfl rfl).field hf 4 _ rfl rfl
 obtain ⟨x5,v5,r5⟩:=(dO (P:=Go.Proofs.Tryz.prog) (t:=3) (k:= .i64) rfl rfl).field hf 5 _ rfl rfl
 obtain ⟨x6,v6,r6⟩:=ZH.field hf 6 _ rfl rfl
 obtain ⟨x7,v7,r7⟩:=(dO (P:=Go.Proofs.Tryz.prog) (t:=3) (k:= .i64) rfl rfl).field hf 7 _ rfl rfl
 obtain ⟨x8,v8,r8⟩:=aBJ.field hf 8 _ rfl rfl
 obtain ⟨x9,v9,r9⟩:=(S0 (P:=Go.Proofs.Tryz.prog) (t:=35) (e:=3) rfl (dO (P:=Go.Proofs.Tryz.prog) (t:=3) (k:= .i64) rfl rfl) rfl:lO Go.Proofs.Tryz.prog 35 sw _).field hf 9 _ rfl rfl
 obtain ⟨x10,v10,r10⟩:=(dO (P:=Go.Proofs.Tryz.prog) (t:=3) (k:= .i64) rfl rfl).field hf 10 _ rfl rfl
 obtain ⟨x11,v11,r11⟩:=aBK.field hf 11 _ rfl rfl
 obtain ⟨x12,v12,r12⟩:=asw.field hf 12 _ rfl rfl
 obtain ⟨x13,v13,r13⟩:=(l5 (P:=Go.Proofs.Tryz.prog) (t:=9) rfl rfl).field hf 13 _ rfl rfl
 obtain ⟨x14,v14,r14⟩:=(DL (P:=Go.Proofs.Tryz.prog) (t:=38) (e:=111) rfl rfl axz (Nat.le_of_ble_eq_true rfl)).field hf 14 _ rfl rfl
 refine ⟨⟨x0,x1,x2,x3,x4,x5,x6,x7,x8,x9,x10,x11,x12,x13,x14⟩,⟨v0,v1,v2,v3,v4,v5,v6,v7,v8,v9,v10,v11,v12,v13,v14⟩,?_⟩
 have hz:cO w [] (cs.drop 33):=List.drop_eq_nil_of_le (Nat.le_of_eq (hl.trans rfl))
 exact (List.drop_zero (l:=cs))▸((bJ (o:=0) r0 (bJ (o:=3) r1 (bJ (o:=4) r2 (bJ (o:=5) r3 (bJ (o:=6) r4 (bJ (o:=7) r5 (bJ (o:=8) r6 (bJ (o:=11) r7 (bJ (o:=12) r8 (bJ (o:=16) r9 (bJ (o:=18) r10 (bJ (o:=19) r11 (bJ (o:=28) r12 (bJ (o:=31) r13 (bJ (o:=32) r14 hz))))))))))))))):cO w _ (cs.drop 0)),rfl⟩
def RS:cS eL:=(gM (gL eL.Us (BC 256 cH)) (gM (gL eL.fX (BC 256 cH)) (gM (gL eL.yV (BC 4 (cu .u64))) (gM (gL eL.sr (BC 4 (cu .u64))) JT))))
def V43(m:Option Nat)(x:eL):Prop:=(∀i,i<256→True)∧(∀i,i<256→True)∧(∀i,i<4→(Lit.int .u64 (x.yV i)).wf=true)∧(∀i,i<4→(Lit.int .u64 (x.sr i)).wf=true)
theorem aBQ:lO Go.Proofs.Tryz.prog 43 RS V43:=⟨fun m w cs h=>by
 obtain ⟨hl,hf⟩:=h.struct rfl
 obtain ⟨x0,v0,r0⟩:=(pZ (P:=Go.Proofs.Tryz.prog) (t:=41) (e:=5) rfl (Ij (P:=Go.Proofs.Tryz.prog) (t:=5) rfl rfl) rfl).field hf 0 _ rfl rfl
 obtain ⟨x1,v1,r1⟩:=(pZ (P:=Go.Proofs.Tryz.prog) (t:=41) (e:=5) rfl (Ij (P:=Go.Proofs.Tryz.prog) (t:=5) rfl rfl) rfl).field hf 1 _ rfl rfl
 obtain ⟨x2,v2,r2⟩:=(pZ (P:=Go.Proofs.Tryz.prog) (t:=32) (e:=31) rfl (dO (P:=Go.Proofs.Tryz.prog) (t:=31) (k:= .u64) rfl rfl) rfl).field hf 2 _ rfl rfl
 obtain ⟨x3,v3,r3⟩:=(pZ (P:=Go.Proofs.Tryz.prog) (t:=32) (e:=31) rfl (dO (P:=Go.Proofs.Tryz.prog) (t:=31) (k:= .u64) rfl rfl) rfl).field hf 3 _ rfl rfl
 refine ⟨⟨x0,x1,x2,x3⟩,⟨v0,v1,v2,v3⟩,?_⟩
 have hz:cO w [] (cs.drop 520):=List.drop_eq_nil_of_le (Nat.le_of_eq (hl.trans rfl))
 exact (List.drop_zero (l:=cs))▸((bJ (o:=0) r0 (bJ (o:=256) r1 (bJ (o:=512) r2 (bJ (o:=516) r3 hz)))):cO w _ (cs.drop 0)),rfl⟩
def V46(m:Option Nat)(x:cA):Prop:=(gV m x.Names.length (Go.Proofs.Tryz.prog.bytesOf 9)∧ ∀y∈x.Names,(y.length≤maxLen∧gV m y.length 1))∧(Lit.int .i64 x.At).wf=true
theorem aBR:lO Go.Proofs.Tryz.prog 46 N0 V46:=⟨fun m w cs h=>by
 obtain ⟨hl,hf⟩:=h.struct rfl
 obtain ⟨x0,v0,r0⟩:=(DL (P:=Go.Proofs.Tryz.prog) (t:=44) (e:=9) rfl rfl (l5 (P:=Go.Proofs.Tryz.prog) (t:=9) rfl rfl) (Nat.le_of_ble_eq_true rfl)).field hf 0 _ rfl rfl
 obtain ⟨x1,v1,r1⟩:=(dO (P:=Go.Proofs.Tryz.prog) (t:=3) (k:= .i64) rfl rfl).field hf 1 _ rfl rfl
 refine ⟨⟨x0,x1⟩,⟨v0,v1⟩,?_⟩
 have hz:cO w [] (cs.drop 2):=List.drop_eq_nil_of_le (Nat.le_of_eq (hl.trans rfl))
 exact (List.drop_zero (l:=cs))▸((bJ (o:=0) r0 (bJ (o:=1) r1 hz)):cO w _ (cs.drop 0)),rfl⟩
def ay7(m:Option Nat)(x:dA):Prop:=(x.Name.length≤maxLen∧gV m x.Name.length 1)∧(x.Value.length≤maxLen∧gV m x.Value.length 1)∧True∧True
theorem axA:lO Go.Proofs.Tryz.prog 118 cY ay7:=⟨fun m w cs h=>by
 obtain ⟨hl,hf⟩:=h.struct rfl
 obtain ⟨x0,v0,r0⟩:=(l5 (P:=Go.Proofs.Tryz.prog) (t:=9) rfl rfl).field hf 0 _ rfl rfl
 obtain ⟨x1,v1,r1⟩:=(l5 (P:=Go.Proofs.Tryz.prog) (t:=9) rfl rfl).field hf 1 _ rfl rfl
 obtain ⟨x2,v2,r2⟩:=(mS (P:=Go.Proofs.Tryz.prog) (t:=4) rfl rfl).field hf 2 _ rfl rfl
 obtain ⟨x3,v3,r3⟩:=(mS (P:=Go.Proofs.Tryz.prog) (t:=4) rfl rfl).field hf 3 _ rfl rfl
 refine ⟨⟨x0,x1,x2,x3⟩,⟨v0,v1,v2,v3⟩,?_⟩
 have hz:cO w [] (cs.drop 4):=List.drop_eq_nil_of_le (Nat.le_of_eq (hl.trans rfl))
 exact (List.drop_zero (l:=cs))▸((bJ (o:=0) r0 (bJ (o:=1) r1 (bJ (o:=2) r2 (bJ (o:=3) r3 hz)))):cO w _ (cs.drop 0)),rfl⟩
def L5:cS ic:=(gM (gL ic.iQ (BC 19 cH)) (gM (gL ic.qC (BC 19 cH)) JT))
def V50(m:Option Nat)(x:ic):Prop:=(∀i,i<19→True)∧(∀i,i<19→True)
theorem aBS:lO Go.Proofs.Tryz.prog 50 L5 V50:=⟨fun m w cs h=>by
 obtain ⟨hl,hf⟩:=h.struct rfl
 obtain ⟨x0,v0,r0⟩:=(pZ (P:=Go.Proofs.Tryz.prog) (t:=48) (e:=5) rfl (Ij (P:=Go.Proofs.Tryz.prog) (t:=5) rfl rfl) rfl).field hf 0 _ rfl rfl
 obtain ⟨x1,v1,r1⟩:=(pZ (P:=Go.Proofs.Tryz.prog) (t:=48) (e:=5) rfl (Ij (P:=Go.Proofs.Tryz.prog) (t:=5) rfl rfl) rfl).field hf 1 _ rfl rfl
 refine ⟨⟨x0,x1⟩,⟨v0,v1⟩,?_⟩
 have hz:cO w [] (cs.drop 38):=List.drop_eq_nil_of_le (Nat.le_of_eq (hl.trans rfl))
 exact (List.drop_zero (l:=cs))▸((bJ (o:=0) r0 (bJ (o:=19) r1 hz)):cO w _ (cs.drop 0)),rfl⟩
def L6:cS J0:=(gM (gL J0.Bits (BC 4 (cu .u64))) JT)
def V51(m:Option Nat)(x:J0):Prop:=(∀i,i<4→(Lit.int .u64 (x.Bits i)).wf=true)
theorem aBT:lO Go.Proofs.Tryz.prog 51 L6 V51:=⟨fun m w cs h=>by
 obtain ⟨hl,hf⟩:=h.struct rfl
 obtain ⟨x0,v0,r0⟩:=(pZ (P:=Go.Proofs.Tryz.prog) (t:=32) (e:=31) rfl (dO (P:=Go.Proofs.Tryz.prog) (t:=31) (k:= .u64) rfl rfl) rfl).field hf 0 _ rfl rfl
 refine ⟨⟨x0⟩,v0,?_⟩
 have hz:cO w [] (cs.drop 4):=List.drop_eq_nil_of_le (Nat.le_of_eq (hl.trans rfl))
 exact (List.drop_zero (l:=cs))▸((bJ (o:=0) r0 hz):cO w _ (cs.drop 0)),rfl⟩
def V53(m:Option Nat)(x:su):Prop:=(x.oH.length≤maxLen∧gV m x.oH.length 1)∧True
theorem aBU:lO Go.Proofs.Tryz.prog 53 J3 V53:=⟨fun m w cs h=>by
 obtain ⟨hl,hf⟩:=h.struct rfl
 obtain ⟨x0,v0,r0⟩:=(l5 (P:=Go.Proofs.Tryz.prog) (t:=9) rfl rfl).field hf 0 _ rfl rfl
 obtain ⟨x1,v1,r1⟩:=(mS (P:=Go.Proofs.Tryz.prog) (t:=4) rfl rfl).field hf 1 _ rfl rfl
 refine ⟨⟨x0,x1⟩,⟨v0,v1⟩,?_⟩
 have hz:cO w [] (cs.drop 2):=List.drop_eq_nil_of_le (Nat.le_of_eq (hl.trans rfl))
 exact (List.drop_zero (l:=cs))▸((bJ (o:=0) r0 (bJ (o:=1) r1 hz)):cO w _ (cs.drop 0)),rfl⟩
def L8:cS bh:=(gM (gL bh.gF Tb) (gM (gL bh.Cr PT) (gM (gL bh.Part dN) (gM (gL bh.dG J1) (gM (gL bh.af Dg) (gM (gL bh.Neg RS) (gM (gL bh.bN N0) (gM (gL bh.Vars (ir cY)) (gM (gL bh.Keys L5) (gM (gL bh.Mask L6) (gM (gL bh.gB J3) (gM (gL bh.kL PT) JT))))))))))))
def V55(m:Option Nat)(x:bh):Prop:=V23 m x.gF∧True∧(x.Part.length≤maxLen∧gV m x.Part.length 1)∧V25 m x.dG∧V40 m x.af∧V43 m x.Neg∧V46 m x.bN∧(gV m x.Vars.length (Go.Proofs.Tryz.prog.bytesOf 118)∧ ∀y∈x.Vars,ay7 m y)∧V50 m x.Keys∧V51 m x.Mask∧V53 m x.gB∧True
theorem aBW:lO Go.Proofs.Tryz.prog 55 L8 V55:=⟨fun m w cs h=>by
 obtain ⟨hl,hf⟩:=h.struct rfl
 obtain ⟨x0,v0,r0⟩:=aBF.field hf 0 _ rfl rfl
 obtain ⟨x1,v1,r1⟩:=(mS (P:=Go.Proofs.Tryz.prog) (t:=4) rfl rfl).field hf 1 _ rfl rfl
 obtain ⟨x2,v2,r2⟩:=(l5 (P:=Go.Proofs.Tryz.prog) (t:=9) rfl rfl).field hf 2 _ rfl rfl
 obtain ⟨x3,v3,r3⟩:=aBG.field hf 3 _ rfl rfl
 obtain ⟨x4,v4,r4⟩:=aBL.field hf 4 _ rfl rfl
 obtain ⟨x5,v5,r5⟩:=aBQ.field hf 5 _ rfl rfl
 obtain ⟨x6,v6,r6⟩:=aBR.field hf 6 _ rfl rfl
 obtain ⟨x7,v7,r7⟩:=(DL (P:=Go.Proofs.Tryz.prog) (t:=47) (e:=118) rfl rfl axA (Nat.le_of_ble_eq_true rfl)).field hf 7 _ rfl rfl
 obtain ⟨x8,v8,r8⟩:=aBS.field hf 8 _ rfl rfl
 obtain ⟨x9,v9,r9⟩:=aBT.field hf 9 _ rfl rfl
 obtain ⟨x10,v10,r10⟩:=aBU.field hf 10 _ rfl rfl
 obtain ⟨x11,v11,r11⟩:=(mS (P:=Go.Proofs.Tryz.prog) (t:=4) rfl rfl).field hf 11 _ rfl rfl
 refine ⟨⟨x0,x1,x2,x3,x4,x5,x6,x7,x8,x9,x10,x11⟩,⟨v0,v1,v2,v3,v4,v5,v6,v7,v8,v9,v10,v11⟩,?_⟩
 have hz:cO w [] (cs.drop 613):=List.drop_eq_nil_of_le (Nat.le_of_eq (hl.trans rfl))
 exact (List.drop_zero (l:=cs))▸((bJ (o:=0) r0 (bJ (o:=5) r1 (bJ (o:=6) r2 (bJ (o:=7) r3 (bJ (o:=12) r4 (bJ (o:=45) r5 (bJ (o:=565) r6 (bJ (o:=567) r7 (bJ (o:=568) r8 (bJ (o:=606) r9 (bJ (o:=610) r10 (bJ (o:=612) r11 hz)))))))))))):cO w _ (cs.drop 0)),rfl⟩
def V57(m:Option Nat)(x:eD):Prop:=(Lit.int .i64 x.Name).wf=true∧(Lit.int .i64 x.eB).wf=true∧(Lit.int .i64 x.eV).wf=true
theorem aBX:lO Go.Proofs.Tryz.prog 57 atw V57:=⟨fun m w cs h=>by
 obtain ⟨hl,hf⟩:=h.struct rfl
 obtain ⟨x0,v0,r0⟩:=(dO (P:=Go.Proofs.Tryz.prog) (t:=3) (k:= .i64) rfl rfl).field hf 0 _ rfl rfl
 obtain ⟨x1,v1,r1⟩:=(dO (P:=Go.Proofs.Tryz.prog) (t:=3) (k:= .i64) rfl rfl).field hf 1 _ rfl rfl
 obtain ⟨x2,v2,r2⟩:=(dO (P:=Go.Proofs.Tryz.prog) (t:=3) (k:= .i64) rfl rfl).field hf 2 _ rfl rfl
 refine ⟨⟨x0,x1,x2⟩,⟨v0,v1,v2⟩,?_⟩
 have hz:cO w [] (cs.drop 3):=List.drop_eq_nil_of_le (Nat.le_of_eq (hl.trans rfl))
 exact (List.drop_zero (l:=cs))▸((bJ (o:=0) r0 (bJ (o:=1) r1 (bJ (o:=2) r2 hz))):cO w _ (cs.drop 0)),rfl⟩
theorem Fp(m:Option Nat)(H: ∀(a1:bh) (a2:eD),V55 m a1→V57 m a2→f4 a1 a2=some true)
  (v0:Value) (v1:Value) (w:World) (h0:Arg m Go.Proofs.Tryz.prog w 55 v0) (h1:Arg m Go.Proofs.Tryz.prog w 57 v1) (hm: ∃m,w.cell? ⟨1,0,none⟩=some (.int .i64 m)) (ht:Lib.TabIs Go.Proofs.Tryz.prog w "internal/strconv.uint64pow10" .u64 Lib.pow10Tab) (hu:Lib.Utf8Tabs 2 3 w):Calls Go.Proofs.Tryz.prog 4 #[v0,v1] w fun e w'=>e= .returned (.bool true)∧Below w.heap.size w w':=by
 obtain ⟨c0,rfl,g0⟩:=h0.agg (.inl ⟨_,rfl⟩)
 obtain ⟨x0,y0,r0⟩:=aBW.op m w _ g0
 obtain ⟨c1,rfl,g1⟩:=h1.agg (.inl ⟨_,rfl⟩)
 obtain ⟨x1,y1,r1⟩:=aBX.op m w _ g1
 exact WB (ZG _ _ (fun _ _ _ h=>by cases h) hm ht hu) afH (aA4 (d:=17) (Nat.le_refl _) (H x0 x1 y0 y1)) ⟨_,_,rfl,⟨_,rfl,by have q:=r0.DK (R:=fun _ _=>False);simp only [Gt,Dg,RS,L5,L6,L8,gM,gL,JT,List.map_append,afx,List.map_cons,List.map_nil,List.append_nil,List.cons_append,List.nil_append] at q;exact Eq.mp (by kernel_rfl) q⟩,⟨_,_,rfl,aj5 r1,rfl⟩⟩
end Go.Proofs.YtimbfadnabfabaaGreatDoor.Pm
