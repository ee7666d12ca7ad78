/- Typed functions, and that the codes are these. Printed by dec.py. -/
import Derived.Test.YtimbfadnabfabaaGreatDoorDMoI
namespace Go.Proofs.YtimbfadnabfabaaGreatDoor.Pm
noncomputable section
set_option maxRecDepth 1000000
set_option maxHeartbeats 20000000
set_option linter.unusedVariables false
set_option linter.unusedSimpArgs false
variable {d : Nat} {Q : PQ} {st : St}
/- (*farwriter/screen.terminal).print -/
def uh(r:ag)(e:PX)(st:St):Prop:=aU acC 4 ((.bH []),[(ek r),(aH r.af),(aJ r.af),(aN r.af)]) e st
def Lc(a1:Int)(a2 iw:ag)(Bt kC:Int):St:=⟨(up (up (up (Td a2.af) 4 (dI kC)) 1 (dI Bt)) 0 (pt 0)),(kN iw)⟩
def vO(a1:Int)(a2 iw:ag)(Bt kC:Int):Option (ag):=((f217 iw.af.aG.bR iw.af.aG.bW iw.af.Row iw.af.cP Bt iw.af.bP iw.af.aG.Cells).bind fun qF=>((bU (decide (qF.length=iw.af.aG.Cells.length))).bind fun TR=>(bif (decide ((IntKind.i64.wrap (a2.af.aG.bR-1))<(IntKind.i64.wrap (iw.af.cP+kC)))) then ((f214 (ag.mk ({iw.af with aG:=(bS.mk iw.af.aG.bR iw.af.aG.bW qF),cP:=(IntKind.i64.wrap (iw.af.cP+kC))}) iw.sent) [] 4).bind fun z44=>(some (ag.mk ({iw.af with aG:=(bS.mk iw.af.aG.bR iw.af.aG.bW qF),cP:=(IntKind.i64.wrap (a2.af.aG.bR-1)),eK:=z44}) iw.sent))) else (some (ag.mk ({iw.af with aG:=(bS.mk iw.af.aG.bR iw.af.aG.bW qF),cP:=(IntKind.i64.wrap (iw.af.cP+kC))}) iw.sent)))))
theorem G4(hd:9≤d){a1:Int}{a2 r:ag}(hQ:FQ (uh r) Q){iw:ag}{Bt kC:Int}(hS:vO a1 a2 iw Bt kC=some r): ∀st,au [0,1,4,5,1000001,1000002,1000003] [(0,.id 0),(1,.id 1),(2,.id 2),(3,.id 3)] [] st=Lc a1 a2 iw Bt kC→ZX d Q acy [] st:=by
 intro st he
 refine av he ?_
 unfold vO at hS
 refine aC (cG (cy 21 (aq hS (fun qF Oy hS=>aq hS (fun TR Oz hS=>di (some 125) none (.fU 217 [(tm 108),(tm 113),(tm 118),(tm 119),(tm 124)]) (wJ [1] [(aH iw.af)] (aqk (aV hd rfl) Oy) (tL aj (e1:=87) (k1:=4) (xs:=iw.af.aG.Cells) (ys:=qF) (by kernel_rfl) Oz qU)) ?_)))))
 have aDO:iw.af.aG.Cells.length=qF.length:=(of_decide_eq_true (gZ Oz)).symm
 try delta Lc
 try delta uT ek kN nt uU jY l8 lB ku lD lF
 try delta bX
 try rw [aDO]
 refine fG (cq (zS (zL 11 (zK (zS (zL 6 (sB 142 hS (fun hS=>?_) (fun hS=>?_))))))))
 ·exact zK (zT (a_ (zL 4 (aq hS (fun z44 Kp hS=>zC 147 (sX (aV hd rfl) Kp) (nL hS hQ))))))
 ·exact nL hS hQ
def Ld(a1:Int)(a2 ij:ag)(kS fj:Int):St:=⟨(up (up (up (Td a2.af) 4 (dI fj)) 1 (dI kS)) 0 (pt 0)),(kN ij)⟩
def vP(a1:Int)(a2 ij:ag)(kS fj:Int):Option (ag):=((f214 ij [] 1).bind fun QK=>(bif QK then ((f216 ij []).bind fun z46=>((f215 ij.af.aG.bR ij.af.aG.bW ij.af.Row ij.af.cP ij.af.aG.bR fj z46 ij.af.aG.Cells).bind fun Eg=>((bU (decide (Eg.length=ij.af.aG.Cells.length))).bind fun y7=>(vO a1 a2 (ag.mk ({ij.af with aG:=(bS.mk ij.af.aG.bR ij.af.aG.bW Eg)}) ij.sent) kS fj)))) else (vO a1 a2 ij kS fj)))
theorem G5(hd:9≤d){a1:Int}{a2 r:ag}(hQ:FQ (uh r) Q){ij:ag}{kS fj:Int}(hS:vP a1 a2 ij kS fj=some r): ∀st,au [0,1,4,5,1000001,1000002,1000003] [(0,.id 0),(1,.id 1),(2,.id 2),(3,.id 3)] [] st=Ld a1 a2 ij kS fj→ZX d Q Qf [] st:=by
 intro st he
 refine av he ?_
 unfold vP at hS
 refine aC (zS (zL 1 (aq hS (fun QK TS hS=>zC 78 (sX (aV hd rfl) TS) (zK (sR 78 hS (fun hS=>?_) (fun hS=>?_)))))))
 ·refine zT (cG (cy 23 (aq hS (fun z46 OA hS=>di (some 102) none (c1 216 101) (b_ (zn (aV hd rfl) OA)) (aq hS (fun Eg Kz hS=>aq hS (fun y7 GN hS=>di (some 103) none (.fU 215 [(tm 83),(tm 88),(tm 93),(tm 99),(tm 100),(tm 102)]) (wJ [1] [(aH ij.af)] (Uz (aV hd rfl) Kz) (tL aj (e1:=87) (k1:=4) (xs:=ij.af.aG.Cells) (ys:=Eg) (by kernel_rfl) GN qU)) ?_)))))))
  have aDP:ij.af.aG.Cells.length=Eg.length:=(of_decide_eq_true (gZ GN)).symm
  try delta Ld
  try delta uT ek kN nt uU jY l8 lB ku lD lF
  try delta bX
  try rw [aDP]
  exact fG (jK (G4 hd hQ hS))
 ·exact jR (G4 hd hQ hS)
def YA(a1:Int)(a2 vh:ag)(F_ Ga:Int):St:=⟨(up (up (up (Td a2.af) 4 (dI Ga)) 1 (dI F_)) 0 (pt 0)),(kN vh)⟩
def vQ(a1:Int)(a2 vh:ag)(F_ Ga:Int):Option (ag):=(vP a1 a2 vh F_ Ga)
theorem G6(hd:9≤d){a1:Int}{a2 r:ag}(hQ:FQ (uh r) Q){vh:ag}{F_ Ga:Int}(hS:vQ a1 a2 vh F_ Ga=some r): ∀st,au [0,1,4,5,1000001,1000002,1000003] [(0,.id 0),(1,.id 1),(2,.id 2),(3,.id 3)] [] st=YA a1 a2 vh F_ Ga→ZX d Q acw [.seq Qf] st:=by
 intro st he
 refine av he ?_
 unfold vQ at hS
 exact jR (G5 hd hQ hS)
def YB(a1:Int)(a2 iE:ag)(jG fS:Int):St:=⟨(up (up (up (Td a2.af) 4 (dI fS)) 1 (dI jG)) 0 (pt 0)),(kN iE)⟩
def vR(a1:Int)(a2 iE:ag)(jG fS:Int):Option (ag):=(bif (decide (fS=2)) then (bif (decide (iE.af.cP=(IntKind.i64.wrap (a2.af.aG.bR-1)))) then ((f214 iE [] 4).bind fun z49=>(bif (!z49) then (some iE) else ((f212 0 iE).bind fun qY=>((bU (decide (qY.af.bn.length=iE.af.bn.length))).bind fun z51=>((bU (decide (qY.af.aT.Cells.length=iE.af.aT.Cells.length))).bind fun Mm=>((bU (decide (qY.af.aG.Cells.length=iE.af.aG.Cells.length))).bind fun z53=>((f213 qY).bind fun FY=>(vP a1 a2 FY jG fS)))))))) else (vQ a1 a2 iE jG fS)) else (vQ a1 a2 iE jG fS))
theorem G7(hd:9≤d){a1:Int}{a2 r:ag}(hQ:FQ (uh r) Q){iE:ag}{jG fS:Int}(hS:vR a1 a2 iE jG fS=some r): ∀st,au [0,1,4,5,1000001,1000002,1000003] [(0,.id 0),(1,.id 1),(2,.id 2),(3,.id 3)] [] st=YB a1 a2 iE jG fS→ZX d Q acz [] st:=by
 intro st he
 refine av he ?_
 unfold vR at hS
 refine aC (zS (zL 1 (sB 60 hS (fun hS=>?_) (fun hS=>?_))))
 ·refine zL 7 (sB 68 hS (fun hS=>?_) (fun hS=>?_))
  ·refine zL 1 (zK (zT (aC (zS (zL 1 (aq hS (fun z49 TB hS=>zC 71 (sX (aV hd rfl) TB) (zL 1 (zK (sR 72 hS (fun hS=>?_) (fun hS=>?_)))))))))))
   ·exact nR hS hQ
   ·exact zF (fV (cq (zS (zL 1 (mH 74 (fun _ h=>gT (aV hd rfl) h) hS (fun qY Oc hS=>zK (a_ (zL 1 (aq hS (fun FY Kr hS=>fW 76 [0,1,2,3] (zA (aV hd rfl) Kr) (zK (G5 hd hQ hS _ (by kernel_rfl)))))))))))))
  ·exact zL 1 (zK (zF (G6 hd hQ hS _ (by kernel_rfl))))
 ·exact jL (G6 hd hQ hS)
def YC(a1:Int)(a2:ag)(C1 q9:Int):St:=⟨(up (up (up (Td a2.af) 4 (dI q9)) 1 (dI C1)) 0 (pt 0)),(kN a2)⟩
def zI(a1:Int)(a2:ag)(C1 q9:Int):Option (ag):=(bif a2.af.eK then ((f212 0 a2).bind fun FZ=>((bU (decide (FZ.af.bn.length=a2.af.bn.length))).bind fun z56=>((bU (decide (FZ.af.aT.Cells.length=a2.af.aT.Cells.length))).bind fun Xv=>((bU (decide (FZ.af.aG.Cells.length=a2.af.aG.Cells.length))).bind fun z58=>((f213 FZ).bind fun z59=>(vR a1 a2 z59 C1 q9)))))) else (vR a1 a2 a2 C1 q9))
theorem UA(hd:9≤d){a1:Int}{a2 r:ag}(hQ:FQ (uh r) Q){C1 q9:Int}(hS:zI a1 a2 C1 q9=some r): ∀st,au [0,1,4,5,1000001,1000002,1000003] [(0,.id 0),(1,.id 1),(2,.id 2),(3,.id 3)] [] st=YC a1 a2 C1 q9→ZX d Q acA [] st:=by
 intro st he
 refine av he ?_
 unfold zI at hS
 refine aC (zS (zL 5 (zK (sR 54 hS (fun hS=>?_) (fun hS=>?_)))))
 ·exact zT (zS (zL 1 (mH 56 (fun _ h=>gT (aV hd rfl) h) hS (fun FZ adU hS=>zK (a_ (zL 1 (aq hS (fun z59 TU hS=>fW 58 [0,1,2,3] (zA (aV hd rfl) TU) (zK (G7 hd hQ hS _ (by kernel_rfl)))))))))))
 ·exact jR (G7 hd hQ hS)
def YD(a1:Int)(a2:ag)(gU:Int):St:=⟨(up (up (up (up (up u0 1000003 .un) 1000002 .un) 1000001 .un) 1 (dI gU)) 0 (pt 0)),(kN a2)⟩
def s7(a1:Int)(a2:ag)(gU:Int):Option (ag):=((f90 gU).bind fun z26=>(bif (decide (z26=0)) then (some a2) else (bif (decide (a2.af.aG.bR<z26)) then (some a2) else (zI a1 a2 gU z26))))
theorem zJ(hd:9≤d){a1:Int}{a2 r:ag}(hQ:FQ (uh r) Q){gU:Int}(hS:s7 a1 a2 gU=some r): ∀st,au [0,1,1000001,1000002,1000003] [(0,.id 0),(1,.id 1),(2,.id 2),(3,.id 3)] [] st=YD a1 a2 gU→ZX d Q Qg [] st:=by
 intro st he
 refine av he ?_
 unfold s7 at hS
 refine aC (cG (cy 1 (aq hS (fun z26 uY hS=>di (some 30) none (c1 90 29) (b_ (Eb (aV hd rfl) uY)) (cy 9 (fG (cq (aC (zS (zL 1 (sB 39 hS (fun hS=>?_) (fun hS=>?_))))))))))))
 ·exact nL hS hQ
 ·refine zL 8 (sB 48 hS (fun hS=>?_) (fun hS=>?_))
  ·exact nL hS hQ
  ·exact jL (UA hd hQ hS)
def YE(a1:Int)(a2:ag):St:=⟨(up (up (up (up (up u0 1000003 .un) 1000002 .un) 1000001 .un) 1 (dI a1)) 0 (pt 0)),(kN a2)⟩
def zM(a1:Int)(a2:ag):Option (ag):=(s7 a1 a2 a1)
theorem G8(hd:9≤d){a1:Int}{a2 r:ag}(hQ:FQ (uh r) Q)(hS:zM a1 a2=some r): ∀st,au [0,1,1000001,1000002,1000003] [(0,.id 0),(1,.id 1),(2,.id 2),(3,.id 3)] [] st=YE a1 a2→ZX d Q acv [.seq Qg] st:=by
 intro st he
 refine av he ?_
 unfold zM at hS
 exact jR (zJ hd hQ hS)
def f187(a1:Int)(a2:ag):Option (ag):=(bif (decide (0≤a1)) then (bif (decide (a1≤127)) then ((jO a2.af.cC 2).bind fun m60=>(bif (decide (m60=0)) then ((f211 a2.af.bp.1 (u8 a1)).bind fun z61=>(s7 a1 a2 z61.1)) else ((f211 a2.af.bp.2 (u8 a1)).bind fun z62=>(s7 a1 a2 z62.1)))) else (zM a1 a2)) else (zM a1 a2))
theorem aqm{d:Nat}(hd:9≤d){a1:Int}{a2 r:ag}(hS:f187 a1 a2=some r):bZ ay aX d 187 [(pt 0),(dI a1)] [(ek a2),(aH a2.af),(aJ a2.af),(aN a2.af)]=some ((.bH []),[(ek r),(aH r.af),(aJ r.af),(aN r.af)]):=by
 refine cI hd (fun Q hQ=>?_) af8
 unfold f187 at hS
 show ZR _ Q acB [] _
 replace hQ:FQ (uh r) Q:=hQ
 refine aC (zS (zL 1 (sB 7 hS (fun hS=>?_) (fun hS=>?_))))
 ·refine zL 2 (sB 10 hS (fun hS=>?_) (fun hS=>?_))
  ·refine zL 1 (zK (zT (cG (cy 9 (aq hS (fun m60 ayN hS=>azR (decide (m60=0)) (fun Le=>?_) (fun Le=>?_)))))))
   ·replace hS:=Aq Le hS
    exact di (v:=(.r (.ptr 0 0 16))) (aD:= []) (some 22) none (.tA 2 1 (tm 21) (tm 18)) (ajW (kk:= .i64) (b:=0) (g:=0) (o:=16) (j:=a2.af.cC) (m:=m60) (by kernel_rfl) (by kernel_rfl) ayN Le) (cy 2 (di (v:=(.d (.int .u8 ((u8 a1).toNat:Int)))) (aD:= []) (some 25) none (.kF .u8 (tm 24)) (gJ (kk:= .i64) (a:=a1) (by kernel_rfl) (iu _)) (aq hS (fun z61 aqe hS=>di (some 26) none (.call 211 [(tm 23),(tm 25)]) (b_ (Ul (aV hd rfl) aqe)) (cy 4 (fG (jK (zJ hd hQ hS))))))))
   ·replace hS:=Ar Le hS
    exact di (v:=(.r (.ptr 0 0 17))) (aD:= []) (some 22) none (.tA 2 1 (tm 21) (tm 18)) (ajX (kk:= .i64) (b:=0) (g:=0) (o:=16) (j:=a2.af.cC) (m:=m60) (by kernel_rfl) (by kernel_rfl) ayN Le) (cy 2 (di (v:=(.d (.int .u8 ((u8 a1).toNat:Int)))) (aD:= []) (some 25) none (.kF .u8 (tm 24)) (gJ (kk:= .i64) (a:=a1) (by kernel_rfl) (iu _)) (aq hS (fun z62 aeh hS=>di (some 26) none (.call 211 [(tm 23),(tm 25)]) (b_ (Ul (aV hd rfl) aeh)) (cy 4 (fG (jK (zJ hd hQ hS))))))))
  ·exact zL 1 (zK (zF (G8 hd hQ hS _ (by kernel_rfl))))
 ·exact jL (G8 hd hQ hS)
/- farwriter/tabs.has -/
def awB(r:Bool)(e:PX)(st:St):Prop:=aU acE 0 ((dB r),[]) e st
def f242(a1:bu)(a2:Int):Option (Bool):=((jO (IntKind.i64.wrap (Int.tdiv a2 64)) 4).bind fun m3=>((bU (decide (0≤(Int.tmod a2 64)))).bind fun z4=>(bif (decide ((cQ .and .u64 (Int.fdiv (a1.Bits m3) (2^(min ((Int.tmod a2 64):Int).toNat 64))) 1)=1)) then (some true) else (some false))))
theorem UB{d:Nat}(hd:1≤d){a1:bu}{a2:Int}{r:Bool}(hS:f242 a1 a2=some r):bZ ay aX d 242 [(.agg (((cu .u64).row 4 a1.Bits)++ [])),(dI a2)] []=some ((dB r),[]):=by
 refine cI hd (fun Q hQ=>?_) agH
 unfold f242 at hS
 show ZR _ Q acD [] _
 replace hQ:FQ (awB r) Q:=hQ
 refine zS (zL 2 (zK (zS (zL 3 (aq hS (fun m3 hm3 hS=>zO (v:=(.r (.ptr 24 1 (0+m3*1)))) (aD:= []) (some 8) (.tA 4 1 (tm 7) (tm 6)) (pJ (kk:= .i64) (b:=24) (g:=1) (o:=0) (j:=(IntKind.i64.wrap (Int.tdiv a2 64))) (by kernel_rfl) (by kernel_rfl) hm3) (zO (v:=(.d (.int .u64 (a1.Bits m3)))) (aD:= []) (some 9) (lf 1 8) (uR (cu .u64) (b:=24) (g:=1) (o:=0+m3*1) (f:=a1.Bits) (nn:=4) (m:=m3) (fo:=0) (pre:= []) (post:= []) (by kernel_rfl) (by kernel_rfl) (by kernel_rfl) (mh hm3) (by kernel_rfl) (by kernel_rfl) (by kernel_rfl)) (zL 2 (aq hS (fun z4 iZ hS=>zO (v:=(.d (.int .u64 (Int.fdiv (a1.Bits m3) (2^(min ((Int.tmod a2 64):Int).toNat 64)))))) (aD:= []) (some 12) (.sh .shr (tm 9) (tm 11)) (PZ (kk:= .u64) (k2:= .i64) (a:=(a1.Bits m3)) (c:=(Int.tmod a2 64)) (by kernel_rfl) (by kernel_rfl) (aC3 iZ)) (zL 1 (sB 14 hS (fun hS=>?_) (fun hS=>?_)))))))))))))
 ·exact nL hS hQ
 ·exact nL hS hQ
/- farwriter/tabs.Next -/
def OV(oX nu:Int):St:=⟨(up (up u0 9 (dI nu)) 8 (dI oX)),h0⟩
theorem ah3{oX nu:Int}:cN (OV oX nu) 0 Ke.res=some ((.bH [(dI oX),(dI nu)]),[]):=by
 kernel_rfl
def aej(r:Int×Int)(e:PX)(st:St):Prop:=aU Ke 0 ((.bH [(dI r.1),(dI r.2)]),[]) e st
def YF(a1:bu)(a2 a3 a4:Int)(x:Int×Int):St:=⟨(up (up (up (up (up u0 10 (dI x.2)) 4 (pt 40)) 3 (dI a4)) 2 (dI x.1)) 1 (dI a2)),(up h0 40 ⟨0,some (.box (((cu .u64).row 4 a1.Bits)++ []))⟩)⟩
def s8(a1:bu)(a2 a3 a4:Int)(x:Int×Int)(st:St):Prop:=au [1,2,3,4,10] [(40,.id 40)] [] st=YF a1 a2 a3 a4 x
def Cl(a1:bu)(a2 a3 a4:Int):St:=⟨(up u0 1 (dI a2)),h0⟩
def xD(a1:bu)(a2 a3 a4:Int)(z:Unit⊕(Int×Int))(e:PX)(st:St):Prop:=(match z with | .inl z=>e= .exit 0∧st=Cl a1 a2 a3 a4 | .inr z=>e= .ret∧dV Ke.fin st=OV z.1 z.2)
def MZ(a1:bu)(a2 a3:Int)(a4 en gA:Int):St:=⟨(up (up (up (up (up u0 10 (dI gA)) 4 (pt 40)) 3 (dI a4)) 2 (dI en)) 1 (dI a2)),(up h0 40 ⟨0,some (.box (((cu .u64).row 4 a1.Bits)++ []))⟩)⟩
def uj(a1:bu)(a2 a3:Int)(a4 en gA:Int):Option ((Int×Int)⊕(Unit⊕(Int×Int))):=((f242 a1 gA).bind fun z4=>(bif z4 then (bif (decide ((IntKind.i64.wrap (en-1))=0)) then (some (.inr (.inr (gA,0)))) else (some (.inl ((IntKind.i64.wrap (en-1)),gA)))) else (some (.inl (en,gA)))))
theorem Lf(hd:2≤d){a1:bu}{a2 a3 a4:Int}{r:(Int×Int)⊕(Unit⊕(Int×Int))}(hQ:FQ (bG (s8 a1 a2 a3 a4) (xD a1 a2 a3 a4) r) Q){en gA:Int}(hS:uj a1 a2 a3 a4 en gA=some r): ∀st,au [1,2,3,4,10] [(40,.id 40)] [] st=MZ a1 a2 a3 a4 en gA→ZX d Q acF [.blk 1] st:=by
 intro st he
 refine av he ?_
 unfold uj at hS
 refine zS (zL 2 (aq hS (fun z4 iZ hS=>zC 46 (UB (aV hd rfl) iZ) (zK (sR 46 hS (fun hS=>?_) (fun hS=>?_))))))
 ·refine zT (zS (zL 3 (zK (zS (zL 1 (sB 50 hS (fun hS=>?_) (fun hS=>?_)))))))
  ·exact zK (zT (zS (zL 3 (zK (cL (cj (bg (mG hS hQ))))))))
  ·exact lL hS hQ
 ·exact lR hS hQ
def M0(a1:bu)(a2 a3:Int)(a4 nv gU:Int):St:=⟨(up (up (up (up (up u0 10 (dI gU)) 4 (pt 40)) 3 (dI a4)) 2 (dI nv)) 1 (dI a2)),(up h0 40 ⟨0,some (.box (((cu .u64).row 4 a1.Bits)++ []))⟩)⟩
def uk(a1:bu)(a2 a3:Int)(a4 nv gU:Int):Option ((Int×Int)⊕(Unit⊕(Int×Int))):=(bif (decide (a4≤(IntKind.i64.wrap (gU+1)))) then (some (.inr (.inr ((IntKind.i64.wrap (a4-1)),0)))) else (uj a1 a2 a3 a4 nv (IntKind.i64.wrap (gU+1))))
theorem Lg(hd:2≤d){a1:bu}{a2 a3 a4:Int}{r:(Int×Int)⊕(Unit⊕(Int×Int))}(hQ:FQ (bG (s8 a1 a2 a3 a4) (xD a1 a2 a3 a4) r) Q){nv gU:Int}(hS:uk a1 a2 a3 a4 nv gU=some r): ∀st,au [1,2,3,4,10] [(40,.id 40)] [] st=M0 a1 a2 a3 a4 nv gU→ZX d Q acG [] st:=by
 intro st he
 refine av he ?_
 unfold uk at hS
 refine bw (aC (zS (zL 3 (zK (zS (zL 2 (sB 41 hS (fun hS=>?_) (fun hS=>?_))))))))
 ·exact zK (zT (zS (zL 4 (zK (cL (bQ (cj (bg (mG hS hQ)))))))))
 ·exact jL (Lf hd hQ hS)
def zN(a1:bu)(a2 a3 a4:Int)(x:Int×Int):Option ((Int×Int)⊕(Unit⊕(Int×Int))):=(bif (decide (0<x.1)) then (uk a1 a2 a3 a4 x.1 x.2) else (some (.inr (.inl ()))))
theorem UC(hd:2≤d){a1:bu}{a2 a3 a4:Int}{r:(Int×Int)⊕(Unit⊕(Int×Int))}(hQ:FQ (bG (s8 a1 a2 a3 a4) (xD a1 a2 a3 a4) r) Q){x:Int×Int}(hS:zN a1 a2 a3 a4 x=some r)(he:s8 a1 a2 a3 a4 x st):ZX d Q acH [] st:=by
 refine av he ?_
 unfold zN at hS
 refine aC (zS (zL 1 (sB 36 hS (fun hS=>?_) (fun hS=>?_))))
 ·exact jL (Lg hd hQ hS)
 ·exact zK (zF (av (J:=Cl a1 a2 a3 a4) (by kernel_rfl) (cX (cV (bg (jw hS hQ))))))
def YG(a1:bu)(a2 a3 a4:Int):St:=⟨(up (up (up (up u0 4 (pt 40)) 3 (dI a4)) 2 (dI a3)) 1 (dI a2)),(up h0 40 ⟨0,some (.box (((cu .u64).row 4 a1.Bits)++ []))⟩)⟩
def EP(a1:bu)(a2 a3 a4:Int):Option (Int×Int):=((b9 (zN a1 a2 a3 a4) (a3,a2)).bind fun z5=>(Sum.elim (fun z6=>(some (a2,0))) (fun z7=>(some (z7.1,z7.2))) z5))
theorem UD(hd:2≤d){a1:bu}{a2 a3 a4:Int}{r:Int×Int}(hQ:FQ (aej r) Q)(hS:EP a1 a2 a3 a4=some r): ∀st,au [1,2,3,4] [(40,.id 40)] [] st=YG a1 a2 a3 a4→ZX d Q acI [] st:=by
 intro st he
 refine av he ?_
 unfold EP at hS
 refine aC (zS (zL 2 (zK (bw (aq hS (fun z5 jQ hS=>dF (s8 a1 a2 a3 a4) (xD a1 a2 a3 a4) (fun x st r Q h0 hS hQ=>UC hd hQ hS h0) (x:=(a3,a2)) (z:=z5) (by show au _ _ _ _=_;kernel_rfl) jQ ?_))))))
 rcases z5 with z6 | z7
 ·replace hS:=(show _=_ from hS)
  simp only [tD] at hS
  intro e bl _ hX
  obtain ⟨rfl,rfl⟩:_∧_:=hX
  exact nK hS hQ
 ·simp only [tE] at hS
  intro e bl _ hX
  obtain ⟨rfl,hX⟩:_∧_:=hX
  exact cj (bQ (bg (dW hS hQ (je (by kernel_rfl) ((congrArg (fun s=>cN s 0 Ke.res) hX).trans ah3)))))
def f218(a1:bu)(a2 a3 a4:Int):Option (Int×Int):=(bif (decide (a4<1)) then (some (0,1)) else (bif (decide (160<a4)) then (some (0,1)) else (bif (decide (a2<0)) then (some (0,1)) else (bif (decide (a4≤a2)) then (some (0,1)) else (bif (decide (a3<0)) then (some (0,1)) else (bif (decide (16383<a3)) then (some (0,1)) else (EP a1 a2 a3 a4)))))))
theorem UE{d:Nat}(hd:2≤d){a1:bu}{a2 a3 a4:Int}{r:Int×Int}(hS:f218 a1 a2 a3 a4=some r):bZ ay aX d 218 [(.agg (((cu .u64).row 4 a1.Bits)++ [])),(dI a2),(dI a3),(dI a4)] []=some ((.bH [(dI r.1),(dI r.2)]),[]):=by
 refine cI hd (fun Q hQ=>?_) ago
 unfold f218 at hS
 show ZR _ Q acJ [] _
 replace hQ:FQ (aej r) Q:=hQ
 refine zS (zL 3 (zK (aC (zS (zL 1 (sB 12 hS (fun hS=>?_) (fun hS=>?_)))))))
 ·exact nL hS hQ
 ·refine zL 2 (sB 15 hS (fun hS=>?_) (fun hS=>?_))
  ·exact nL hS hQ
  ·refine zL 3 (sB 19 hS (fun hS=>?_) (fun hS=>?_))
   ·exact nL hS hQ
   ·refine zL 4 (sB 24 hS (fun hS=>?_) (fun hS=>?_))
    ·exact nL hS hQ
    ·refine zL 3 (sB 28 hS (fun hS=>?_) (fun hS=>?_))
     ·exact nL hS hQ
     ·refine zL 3 (sB 32 hS (fun hS=>?_) (fun hS=>?_))
      ·exact nL hS hQ
      ·exact jL (UD hd hQ hS)
/- (*farwriter/screen.terminal).control -/
def aek(r:ag)(e:PX)(st:St):Prop:=aU acM 4 ((.bH []),[(ek r),(aH r.af),(aJ r.af),(aN r.af)]) e st
def YH(a1:Int)(a2:ag)(fH:Bool):St:=⟨(up (up (up (up (up (up u0 1000003 .un) 1000002 .un) 1000001 .un) 42 (dB fH)) 6 (dI a1)) 0 (pt 0)),(kN a2)⟩
def mg(a1:Int)(a2:ag)(fH:Bool):Option (ag):=(bif fH then ((f213 a2).bind fun oZ=>((f214 oZ [] 128).bind fun KD=>(bif KD then ((f212 0 oZ).bind fun z31=>((bU (decide (z31.af.bn.length=oZ.af.bn.length))).bind fun KE=>((bU (decide (z31.af.aT.Cells.length=oZ.af.aT.Cells.length))).bind fun z33=>((bU (decide (z31.af.aG.Cells.length=oZ.af.aG.Cells.length))).bind fun QS=>(some z31))))) else (some oZ)))) else (bif (decide (a1=13)) then ((f212 0 a2).bind fun KC=>((bU (decide (KC.af.bn.length=a2.af.bn.length))).bind fun z36=>((bU (decide (KC.af.aT.Cells.length=a2.af.aT.Cells.length))).bind fun z37=>((bU (decide (KC.af.aG.Cells.length=a2.af.aG.Cells.length))).bind fun MP=>(some KC))))) else (bif (decide (a1=14)) then (some (ag.mk ({a2.af with cC:=1}) a2.sent)) else (bif (decide (a1=15)) then (some (ag.mk ({a2.af with cC:=0}) a2.sent)) else (some a2)))))
theorem um(hd:9≤d){a1:Int}{a2 r:ag}(hQ:FQ (aek r) Q){fH:Bool}(hS:mg a1 a2 fH=some r): ∀st,au [0,6,42,1000001,1000002,1000003] [(0,.id 0),(1,.id 1),(2,.id 2),(3,.id 3)] [] st=YH a1 a2 fH→ZX d Q acK [.blk 0] st:=by
 intro st he
 refine av he ?_
 unfold mg at hS
 refine sR 42 hS (fun hS=>?_) (fun hS=>?_)
 ·refine zT (zS (zL 1 (aq hS (fun oZ KB hS=>fW 47 [0,1,2,3] (zA (aV hd rfl) KB) (zK (zS (zL 1 (aq hS (fun KD TX hS=>zC 49 (sX (aV hd rfl) TX) (zK (sR 49 hS (fun hS=>?_) (fun hS=>?_))))))))))))
  ·exact zT (a_ (zL 1 (mH 51 (fun _ h=>gT (aV hd rfl) h) hS (fun z31 ad9 hS=>nL hS hQ))))
  ·exact nR hS hQ
 ·refine zF (zS (sB 53 hS (fun hS=>?_) (fun hS=>?_)))
  ·exact zL 1 (zK (zT (a_ (zL 1 (mH 55 (fun _ h=>gT (aV hd rfl) h) hS (fun KC ayA hS=>nL hS hQ))))))
  ·refine zL 1 (zK (zF (zS (sB 57 hS (fun hS=>?_) (fun hS=>?_)))))
   ·exact nL hS hQ
   ·refine zL 1 (zK (zF (zS (sB 63 hS (fun hS=>?_) (fun hS=>?_)))))
    ·exact nL hS hQ
    ·exact nL hS hQ
def f188(a1:Int)(a2:ag):Option (ag):=(bif (decide (a1=8)) then ((f212 (IntKind.i64.wrap (a2.af.cP-1)) a2).bind fun z20=>((bU (decide (z20.af.bn.length=a2.af.bn.length))).bind fun z21=>((bU (decide (z20.af.aT.Cells.length=a2.af.aT.Cells.length))).bind fun z22=>((bU (decide (z20.af.aG.Cells.length=a2.af.aG.Cells.length))).bind fun z23=>(some z20))))) else (bif (decide (a1=9)) then ((f218 a2.af.eU a2.af.cP 1 a2.af.aG.bR).bind fun z24=>((f212 z24.1 a2).bind fun z25=>((bU (decide (z25.af.bn.length=a2.af.bn.length))).bind fun z26=>((bU (decide (z25.af.aT.Cells.length=a2.af.aT.Cells.length))).bind fun yu=>((bU (decide (z25.af.aG.Cells.length=a2.af.aG.Cells.length))).bind fun z28=>(some z25)))))) else (bif (decide (a1=10)) then (mg a1 a2 true) else (bif (decide (a1=11)) then (mg a1 a2 true) else (bif (decide (a1=12)) then (mg a1 a2 true) else (mg a1 a2 false))))))
theorem aqn{d:Nat}(hd:9≤d){a1:Int}{a2 r:ag}(hS:f188 a1 a2=some r):bZ ay aX d 188 [(pt 0),(dI a1)] [(ek a2),(aH a2.af),(aJ a2.af),(aN a2.af)]=some ((.bH []),[(ek r),(aH r.af),(aJ r.af),(aN r.af)]):=by
 refine cI hd (fun Q hQ=>?_) af9
 unfold f188 at hS
 show ZR _ Q acL [] _
 replace hQ:FQ (aek r) Q:=hQ
 refine zS (zL 1 (zK (bw (zS (sB 8 hS (fun hS=>?_) (fun hS=>?_))))))
 ·exact zL 1 (zK (zT (a_ (zL 7 (mH 16 (fun _ h=>gT (aV hd rfl) h) hS (fun z20 qN hS=>nL hS hQ))))))
 ·refine zL 1 (zK (zF (zS (sB 18 hS (fun hS=>?_) (fun hS=>?_)))))
  ·exact zL 1 (zK (zT (aC (cG (cy 16 (aq hS (fun z24 qO hS=>di (some 36) none (.call 218 [(tm 24),(tm 29),(ki 1),(tm 35)]) (b_ (UE (aV hd rfl) qO)) (cy 5 (fG (cq (a_ (zL 2 (mH 41 (fun _ h=>gT (aV hd rfl) h) hS (fun z25 vB hS=>nL hS hQ))))))))))))))
  ·refine zL 1 (zK (zF (aC (zS (sB 43 hS (fun hS=>?_) (fun hS=>?_))))))
   ·exact jL (um hd hQ hS)
   ·refine zL 1 (zK (zF (zS (sB 44 hS (fun hS=>?_) (fun hS=>?_)))))
    ·exact jL (um hd hQ hS)
    ·refine zL 1 (zK (zF (a_ (sB 45 hS (fun hS=>?_) (fun hS=>?_)))))
     ·exact zL 1 (zK (um hd hQ hS _ (by kernel_rfl)))
     ·exact jL (um hd hQ hS)
/- (*farwriter/screen.terminal).reverse -/
def awC(r:ag)(e:PX)(st:St):Prop:=aU acO 4 ((.bH []),[(ek r),(aH r.af),(aJ r.af),(aN r.af)]) e st
def f219(a1:ag):Option (ag):=(bif (decide (a1.af.Row=a1.af.ji)) then ((f216 (ag.mk ({a1.af with eK:=false}) a1.sent) []).bind fun z4=>((f239 a1.af.aG.bR a1.af.aG.bW a1.af.ji a1.af.cT (-1) z4 a1.af.aG.Cells).bind fun z5=>((bU (decide (z5.length=a1.af.aG.Cells.length))).bind fun z6=>(some (ag.mk ({a1.af with aG:=(bS.mk a1.af.aG.bR a1.af.aG.bW z5),eK:=false}) a1.sent))))) else (bif (decide (0<a1.af.Row)) then (some (ag.mk ({a1.af with Row:=(IntKind.i64.wrap (a1.af.Row-1)),eK:=false}) a1.sent)) else (some (ag.mk ({a1.af with eK:=false}) a1.sent))))
theorem aqo{d:Nat}(hd:8≤d){a1 r:ag}(hS:f219 a1=some r):bZ ay aX d 219 [(pt 0)] [(ek a1),(aH a1.af),(aJ a1.af),(aN a1.af)]=some ((.bH []),[(ek r),(aH r.af),(aJ r.af),(aN r.af)]):=by
 refine cI hd (fun Q hQ=>?_) agp
 unfold f219 at hS
 show ZR _ Q acN [] _
 replace hQ:FQ (awC r) Q:=hQ
 refine zS (zL 5 (zK (bw (aC (cG (cy 10 (JY 17 none (.tH .eql (tm 11) (tm 16)) hS (fun hS=>?_) (fun hS=>?_))))))))
 ·refine cy 1 (fG (cq (zT (cG (cy 16 (aq hS (fun z4 iZ hS=>di (some 34) none (c1 216 33) (b_ (zn (aV hd rfl) iZ)) (aq hS (fun z5 jQ hS=>aq hS (fun z6 l9 hS=>di (some 35) none (.fU 239 [(tm 22),(tm 27),(tm 32),(ki (-1)),(tm 34)]) (wJ [1] [(aH a1.af)] (K8 (aV hd rfl) jQ) (tL aj (e1:=87) (k1:=4) (xs:=a1.af.aG.Cells) (ys:=z5) (by kernel_rfl) l9 qU)) ?_))))))))))
  have lz6:a1.af.aG.Cells.length=z5.length:=(of_decide_eq_true (gZ l9)).symm
  try delta uT ek kN nt uU jY l8 lB ku lD lF
  try delta bX
  try rw [lz6]
  exact fG (nK hS hQ)
 ·refine cy 1 (fG (cq (zF (zS (zL 5 (sB 42 hS (fun hS=>?_) (fun hS=>?_)))))))
  ·exact nL hS hQ
  ·exact nL hS hQ
/- farwriter/tabs.Set -/
def ael(r:bu×Int)(e:PX)(st:St):Prop:=aU acR 0 ((.bH [(.agg (((cu .u64).row 4 r.1.Bits)++ [])),(dI r.2)]),[]) e st
def YI(a1:bu)(a2:Int)(a3:Bool):St:=⟨(up (up (up (up u0 6 (pt 56)) 3 (pt 32)) 2 (dB a3)) 1 (dI a2)),(up (up h0 56 ⟨0,some (.box (((cu .u64).row 4 (fun _=>0))++ []))⟩) 32 ⟨0,some (.box (((cu .u64).row 4 a1.Bits)++ []))⟩)⟩
def zP(a1:bu)(a2:Int)(a3:Bool):Option (bu×Int):=((jO (IntKind.i64.wrap (Int.tdiv a2 64)) 4).bind fun m7=>((bU (decide (0≤(Int.tmod a2 64)))).bind fun z8=>((jO (IntKind.i64.wrap (Int.tdiv a2 64)) 4).bind fun m9=>(bif a3 then ((jO (IntKind.i64.wrap (Int.tdiv a2 64)) 4).bind fun m10=>((bU (decide (0≤(Int.tmod a2 64)))).bind fun cM=>((jO (IntKind.i64.wrap (Int.tdiv a2 64)) 4).bind fun m12=>(some ((bu.mk (upd (upd a1.Bits m9 (cQ .andNot .u64 (a1.Bits m7) (IntKind.u64.wrap (1*2^(min ((Int.tmod a2 64):Int).toNat 64))))) m12 (cQ .or .u64 ((upd a1.Bits m9 (cQ .andNot .u64 (a1.Bits m7) (IntKind.u64.wrap (1*2^(min ((Int.tmod a2 64):Int).toNat 64))))) m10) (IntKind.u64.wrap (1*2^(min ((Int.tmod a2 64):Int).toNat 64)))))),0))))) else (some ((bu.mk (upd a1.Bits m9 (cQ .andNot .u64 (a1.Bits m7) (IntKind.u64.wrap (1*2^(min ((Int.tmod a2 64):Int).toNat 64)))))),0))))))
theorem UF(hd:1≤d){a1:bu}{a2:Int}{a3:Bool}{r:bu×Int}(hQ:FQ (ael r) Q)(hS:zP a1 a2 a3=some r): ∀st,au [1,2,3,6] [(32,.id 32),(56,.id 56)] [] st=YI a1 a2 a3→ZX d Q acP [] st:=by
 intro st he
 refine av he ?_
 unfold zP at hS
 refine aC (cG (cy 3 (aq hS (fun m7 hm7 hS=>di (v:=(.r (.ptr 32 0 (0+m7*1)))) (aD:= []) (some 18) none (.tA 4 1 (tm 17) (tm 16)) (pJ (kk:= .i64) (b:=32) (g:=0) (o:=0) (j:=(IntKind.i64.wrap (Int.tdiv a2 64))) (by kernel_rfl) (by kernel_rfl) hm7) (di (v:=(.d (.int .u64 (a1.Bits m7)))) (aD:= []) (some 19) none (lf 1 18) (uR (cu .u64) (b:=32) (g:=0) (o:=0+m7*1) (f:=a1.Bits) (nn:=4) (m:=m7) (fo:=0) (pre:= []) (post:= []) (by kernel_rfl) (by kernel_rfl) (by kernel_rfl) (mh hm7) (by kernel_rfl) (by kernel_rfl) (by kernel_rfl)) (cy 2 (aq hS (fun z8 iW hS=>di (v:=(.d (.int .u64 (IntKind.u64.wrap (1*2^(min ((Int.tmod a2 64):Int).toNat 64)))))) (aD:= []) (some 22) none (.sh .shl (.const (.int .u64 1)) (tm 21)) (PZ (kk:= .u64) (k2:= .i64) (a:=1) (c:=(Int.tmod a2 64)) (by kernel_rfl) (by kernel_rfl) (aj1 iW)) (cy 2 (aq hS (fun m9 hm9 hS=>di (v:=(.r (.ptr 32 0 (0+m9*1)))) (aD:= []) (some 25) none (.tA 4 1 (tm 24) (tm 16)) (pJ (kk:= .i64) (b:=32) (g:=0) (o:=0) (j:=(IntKind.i64.wrap (Int.tdiv a2 64))) (by kernel_rfl) (by kernel_rfl) hm9) (di (v:= .un) (aD:= [(32,⟨0,some (.box (((cu .u64).row 4 (upd a1.Bits m9 (cQ .andNot .u64 (a1.Bits m7) (IntKind.u64.wrap (1*2^(min ((Int.tmod a2 64):Int).toNat 64))))))++ []))⟩)]) none none (.store 1 (tm 25) (tm 23)) (CJ (cu .u64) (b:=32) (g:=0) (o:=0+m9*1) (f:=a1.Bits) (nn:=4) (m:=m9) (fo:=0) (pre:= []) (post:= []) (by kernel_rfl) (by kernel_rfl) (by kernel_rfl) (mh hm9) (new:=((.d (.int .u64 (cQ .andNot .u64 (a1.Bits m7) (IntKind.u64.wrap (1*2^(min ((Int.tmod a2 64):Int).toNat 64)))))):: [])) (ds:= [.int .u64 (cQ .andNot .u64 (a1.Bits m7) (IntKind.u64.wrap (1*2^(min ((Int.tmod a2 64):Int).toNat 64))))]) (z':=(cQ .andNot .u64 (a1.Bits m7) (IntKind.u64.wrap (1*2^(min ((Int.tmod a2 64):Int).toNat 64))))) (by kernel_rfl) (by kernel_rfl) (by kernel_rfl) (by kernel_rfl) (by kernel_rfl) (by kernel_rfl)) (fG (cq (aC (zS (zL 1 (zK (sR 26 hS (fun hS=>?_) (fun hS=>?_))))))))))))))))))))
 ·exact zT (cG (cy 3 (aq hS (fun m10 ayO hS=>di (v:=(.r (.ptr 32 0 (0+m10*1)))) (aD:= []) (some 30) none (.tA 4 1 (tm 29) (tm 28)) (pJ (kk:= .i64) (b:=32) (g:=0) (o:=0) (j:=(IntKind.i64.wrap (Int.tdiv a2 64))) (by kernel_rfl) (by kernel_rfl) ayO) (di (v:=(.d (.int .u64 ((upd a1.Bits m9 (cQ .andNot .u64 (a1.Bits m7) (IntKind.u64.wrap (1*2^(min ((Int.tmod a2 64):Int).toNat 64))))) m10)))) (aD:= []) (some 31) none (lf 1 30) (uR (cu .u64) (b:=32) (g:=0) (o:=0+m10*1) (f:=(upd a1.Bits m9 (cQ .andNot .u64 (a1.Bits m7) (IntKind.u64.wrap (1*2^(min ((Int.tmod a2 64):Int).toNat 64)))))) (nn:=4) (m:=m10) (fo:=0) (pre:= []) (post:= []) (by kernel_rfl) (by kernel_rfl) (by kernel_rfl) (mh ayO) (by kernel_rfl) (by kernel_rfl) (by kernel_rfl)) (cy 2 (aq hS (fun cM jN hS=>di (v:=(.d (.int .u64 (IntKind.u64.wrap (1*2^(min ((Int.tmod a2 64):Int).toNat 64)))))) (aD:= []) (some 34) none (.sh .shl (.const (.int .u64 1)) (tm 33)) (PZ (kk:= .u64) (k2:= .i64) (a:=1) (c:=(Int.tmod a2 64)) (by kernel_rfl) (by kernel_rfl) (aj1 jN)) (cy 2 (aq hS (fun m12 ayP hS=>di (v:=(.r (.ptr 32 0 (0+m12*1)))) (aD:= []) (some 37) none (.tA 4 1 (tm 36) (tm 28)) (pJ (kk:= .i64) (b:=32) (g:=0) (o:=0) (j:=(IntKind.i64.wrap (Int.tdiv a2 64))) (by kernel_rfl) (by kernel_rfl) ayP) (di (v:= .un) (aD:= [(32,⟨0,some (.box (((cu .u64).row 4 (upd (upd a1.Bits m9 (cQ .andNot .u64 (a1.Bits m7) (IntKind.u64.wrap (1*2^(min ((Int.tmod a2 64):Int).toNat 64))))) m12 (cQ .or .u64 ((upd a1.Bits m9 (cQ .andNot .u64 (a1.Bits m7) (IntKind.u64.wrap (1*2^(min ((Int.tmod a2 64):Int).toNat 64))))) m10) (IntKind.u64.wrap (1*2^(min ((Int.tmod a2 64):Int).toNat 64))))))++ []))⟩)]) none none (.store 1 (tm 37) (tm 35)) (CJ (cu .u64) (b:=32) (g:=0) (o:=0+m12*1) (f:=(upd a1.Bits m9 (cQ .andNot .u64 (a1.Bits m7) (IntKind.u64.wrap (1*2^(min ((Int.tmod a2 64):Int).toNat 64)))))) (nn:=4) (m:=m12) (fo:=0) (pre:= []) (post:= []) (by kernel_rfl) (by kernel_rfl) (by kernel_rfl) (mh ayP) (new:=((.d (.int .u64 (cQ .or .u64 ((upd a1.Bits m9 (cQ .andNot .u64 (a1.Bits m7) (IntKind.u64.wrap (1*2^(min ((Int.tmod a2 64):Int).toNat 64))))) m10) (IntKind.u64.wrap (1*2^(min ((Int.tmod a2 64):Int).toNat 64)))))):: [])) (ds:= [.int .u64 (cQ .or .u64 ((upd a1.Bits m9 (cQ .andNot .u64 (a1.Bits m7) (IntKind.u64.wrap (1*2^(min ((Int.tmod a2 64):Int).toNat 64))))) m10) (IntKind.u64.wrap (1*2^(min ((Int.tmod a2 64):Int).toNat 64))))]) (z':=(cQ .or .u64 ((upd a1.Bits m9 (cQ .andNot .u64 (a1.Bits m7) (IntKind.u64.wrap (1*2^(min ((Int.tmod a2 64):Int).toNat 64))))) m10) (IntKind.u64.wrap (1*2^(min ((Int.tmod a2 64):Int).toNat 64))))) (by kernel_rfl) (by kernel_rfl) (by kernel_rfl) (by kernel_rfl) (by kernel_rfl) (by kernel_rfl)) (fG (nK hS hQ))))))))))))))
 ·exact nR hS hQ
def f220(a1:bu)(a2:Int)(a3:Bool):Option (bu×Int):=(bif (decide (a2<0)) then (some (a1,1)) else (bif (decide (255<a2)) then (some (a1,1)) else (zP a1 a2 a3)))
theorem aqr{d:Nat}(hd:1≤d){a1:bu}{a2:Int}{a3:Bool}{r:bu×Int}(hS:f220 a1 a2 a3=some r):bZ ay aX d 220 [(.agg (((cu .u64).row 4 a1.Bits)++ [])),(dI a2),(dB a3)] []=some ((.bH [(.agg (((cu .u64).row 4 r.1.Bits)++ [])),(dI r.2)]),[]):=by
 refine cI hd (fun Q hQ=>?_) agq
 unfold f220 at hS
 show ZR _ Q acQ [] _
 replace hQ:FQ (ael r) Q:=hQ
 refine zS (zL 3 (zK (aC (zS (zL 1 (sB 9 hS (fun hS=>?_) (fun hS=>?_)))))))
 ·exact nL hS hQ
 ·refine zL 2 (sB 12 hS (fun hS=>?_) (fun hS=>?_))
  ·exact nL hS hQ
  ·exact jL (UF hd hQ hS)
/- (*farwriter/screen.terminal).save -/
def awD(r:ag)(e:PX)(st:St):Prop:=aU acT 4 ((.bH []),[(ek r),(aH r.af),(aJ r.af),(aN r.af),.box []]) e st
def f221(a1:ag):Option (ag):=((f214 a1 [] 2).bind fun z2=>(some (ag.mk ({a1.af with aI:=(tM.mk a1.af.Row a1.af.cP a1.af.bP z2 a1.af.bp a1.af.cC)}) a1.sent)))
theorem UG{d:Nat}(hd:2≤d){a1 r:ag}(hS:f221 a1=some r):bZ ay aX d 221 [(pt 0)] [(ek a1),(aH a1.af),(aJ a1.af),(aN a1.af)]=some ((.bH []),[(ek r),(aH r.af),(aJ r.af),(aN r.af),.box []]):=by
 refine cI hd (fun Q hQ=>?_) agr
 unfold f221 at hS
 show ZR _ Q acS [] _
 replace hQ:FQ (awD r) Q:=hQ
 exact cG (cy 17 (aq hS (fun z2 hz2 hS=>di (some 19) none (.call 214 [(tm 18),(ki 2)]) (b_ (sX (aV hd rfl) hz2)) (cy 15 (fG (nK hS hQ))))))
/- (*farwriter/screen.terminal).set -/
def awE(r:ag)(e:PX)(st:St):Prop:=aU acV 4 ((.bH []),[(ek r),(aH r.af),(aJ r.af),(aN r.af),.box []]) e st
def f223(a1:Int)(a2:Bool)(a3:ag):Option (ag):=(bif a2 then (some (ag.mk ({a3.af with eE:=(cQ .or .i64 (cQ .andNot .i64 a3.af.eE a1) a1)}) a3.sent)) else (some (ag.mk ({a3.af with eE:=(cQ .andNot .i64 a3.af.eE a1)}) a3.sent)))
theorem Lh{d:Nat}(hd:1≤d){a1:Int}{a2:Bool}{a3 r:ag}(hS:f223 a1 a2 a3=some r):bZ ay aX d 223 [(pt 0),(dI a1),(dB a2)] [(ek a3),(aH a3.af),(aJ a3.af),(aN a3.af)]=some ((.bH []),[(ek r),(aH r.af),(aJ r.af),(aN r.af),.box []]):=by
 refine cI hd (fun Q hQ=>?_) agt
 unfold f223 at hS
 show ZR _ Q acU [] _
 replace hQ:FQ (awE r) Q:=hQ
 refine zS (zL 11 (zK (zS (zL 1 (zK (sR 16 hS (fun hS=>?_) (fun hS=>?_)))))))
 ·exact nR hS hQ
 ·exact nR hS hQ
/- (*farwriter/screen.terminal).restore -/
def awF(r:ag)(e:PX)(st:St):Prop:=aU acX 4 ((.bH []),[(ek r),(aH r.af),(aJ r.af),(aN r.af),.box []]) e st
def f222(a1:ag):Option (ag):=((f223 2 a1.af.aI.Origin (aC_ a1)).bind fun z9=>((bU (decide (z9.af.bn.length=a1.af.bn.length))).bind fun dh=>((bU (decide (z9.af.aT.Cells.length=a1.af.aT.Cells.length))).bind fun cM=>((bU (decide (z9.af.aG.Cells.length=a1.af.aG.Cells.length))).bind fun z12=>((f212 a1.af.aI.cP z9).bind fun dX=>((bU (decide (dX.af.bn.length=z9.af.bn.length))).bind fun dR=>((bU (decide (dX.af.aT.Cells.length=z9.af.aT.Cells.length))).bind fun eZ=>((bU (decide (dX.af.aG.Cells.length=z9.af.aG.Cells.length))).bind fun dx=>(some dX)))))))))
theorem UH{d:Nat}(hd:3≤d){a1 r:ag}(hS:f222 a1=some r):bZ ay aX d 222 [(pt 0)] [(ek a1),(aH a1.af),(aJ a1.af),(aN a1.af)]=some ((.bH []),[(ek r),(aH r.af),(aJ r.af),(aN r.af),.box []]):=by
 refine cI hd (fun Q hQ=>?_) ags
 unfold f222 at hS
 show ZR _ Q acW [] _
 replace hQ:FQ (awF r) Q:=hQ
 exact zS (zL 7 (zK (aC (cG (cy 15 (fG (cq (aC (cG (cy 21 (fG (cq (zS (zL 3 (mH 43 (fun _ h=>Lh (aV hd rfl) h) hS (fun z9 jF hS=>zK (a_ (zL 3 (mH 47 (fun _ h=>gT (aV hd rfl) h) hS (fun dX iU hS=>nL hS hQ))))))))))))))))))))
/- farwriter/grid.New -/
def ah4(p5 p6:Int)(p7:List ah)(p8:Int):St:=⟨(up (up u0 7 (dI p8)) 6 (pt 56)),(up (up h0 216 ⟨0,some (.own 87 4 (aj.cells p7))⟩) 56 ⟨0,some (.box ((dI p5)::((dI p6)::((.r (.aL 216 0 0 p7.length)):: []))))⟩)⟩
theorem Gb{p5 p6:Int}{p7:List ah}{p8:Int}:cN (ah4 p5 p6 p7 p8) 0 Tm.res=some ((.bH [(.agg ((dI p5)::((dI p6)::((.r (.own 0 87 4 p7.length (aj.cells p7))):: [])))),(dI p8)]),[]):=by
 exact iP (ids:= []) (ids':= [216]) (l:= [(.agg ((dI p5)::((dI p6)::((.r (.aL 216 0 0 p7.length)):: [])))),(dI p8)]) (by kernel_rfl) (by kernel_rfl) (CO (aO (CN (aO rfl (aO rfl (aO (g_ aj (e:=87) (k:=4) (xs:=p7) (by kernel_rfl) rfl rfl rfl rfl) nH)))) (aO rfl nH)))
def aem(r:Int×Int×(List ah)×Int)(e:PX)(st:St):Prop:=aU Tm 0 ((.bH [(.agg ((dI r.1)::((dI r.2.1)::((.r (.own 0 87 4 r.2.2.1.length (aj.cells r.2.2.1))):: [])))),(dI r.2.2.2)]),[]) e st
def YJ(a1 a2:Int)(a3:bA):St:=⟨(up (up (up (up u0 6 (pt 56)) 5 (pt 48)) 1 (dI a2)) 0 (dI a1)),(up (up h0 56 ⟨0,some (.box ((dI 0)::((dI 0)::((.d (.sl ([]:List ah).length (aj.cells ([])))):: []))))⟩) 48 (yY a3))⟩
def ER(a1 a2:Int)(a3:bA):Option (Int×Int×(List ah)×Int):=((f59 a3).bind fun z5=>(bif (!decide (z5=0)) then (some (0,0,[],z5)) else ((f138 a1 a2 a3).bind fun z6=>(some (z6.1,z6.2.1,z6.2.2,0)))))
theorem UI(hd:5≤d){a1 a2:Int}{a3:bA}{r:Int×Int×(List ah)×Int}(hQ:FQ (aem r) Q)(hS:ER a1 a2 a3=some r): ∀st,au [0,1,5,6] [(48,.id 48),(56,.id 56)] [.cell 56 2 0 0 1] st=YJ a1 a2 a3→ZX d Q acY [] st:=by
 intro st he
 refine av he ?_
 unfold ER at hS
 refine aC (zS (zL 1 (aq hS (fun z5 jQ hS=>zC 18 (Ir (aV hd rfl) jQ) (zL 1 (zK (zS (zL 1 (sB 20 hS (fun hS=>?_) (fun hS=>?_))))))))))
 ·exact zK (zT (zS (zL 4 (zK (cL (bQ (bg (dW hS hQ (fR Gb)))))))))
 ·exact zK (zF (fV (cq (zS (zL 3 (aq hS (fun z6 l9 hS=>zC 26 (Uo (aV hd rfl) l9) (zL 2 (zK (cL (bg (dW hS hQ (fR Gb)))))))))))))
def f101(a1 a2:Int)(a3:bA):Option (Int×Int×(List ah)×Int):=((f88 a1 a2).bind fun z7=>(bif (!decide (z7=0)) then (some (0,0,[],z7)) else (ER a1 a2 a3)))
theorem aqs{d:Nat}(hd:5≤d){a1 a2:Int}{a3:bA}{r:Int×Int×(List ah)×Int}(hS:f101 a1 a2 a3=some r):bZ ay aX d 101 [(dI a1),(dI a2),(BF a3)] []=some ((.bH [(.agg ((dI r.1)::((dI r.2.1)::((.r (.own 0 87 4 r.2.2.1.length (aj.cells r.2.2.1))):: [])))),(dI r.2.2.2)]),[]):=by
 refine cI hd (fun Q hQ=>?_) afI
 unfold f101 at hS
 show ZR _ Q acZ [] _
 replace hQ:FQ (aem r) Q:=hQ
 refine zS (zL 3 (zK (aC (zS (zL 2 (aq hS (fun z7 kO hS=>zC 12 (adY (aV hd rfl) kO) (zL 1 (zK (zS (zL 1 (sB 14 hS (fun hS=>?_) (fun hS=>?_)))))))))))))
 ·exact zK (zT (zS (zL 4 (zK (cL (bQ (bg (dW hS hQ (fR Gb)))))))))
 ·exact jL (UI hd hQ hS)
/- farwriter/tabs.Usual -/
def awG(r:bu)(e:PX)(st:St):Prop:=aU ac3 0 ((.agg (((cu .u64).row 4 r.Bits)++ [])),[]) e st
def YK(x:bu×Int):St:=⟨(up (up (up u0 2 (dI x.2)) 1 (pt 16)) 0 (pt 8)),(up (up h0 16 ⟨0,some (.box (((cu .u64).row 4 x.1.Bits)++ []))⟩) 8 ⟨0,some (.box (((cu .u64).row 4 (fun _=>0))++ []))⟩)⟩
def xE(x:bu×Int)(st:St):Prop:=au [0,1,2] [(8,.id 8),(16,.id 16)] [] st=YK x
def Cm(nM:bu):St:=⟨(up (up u0 1 (pt 16)) 0 (pt 8)),(up (up h0 16 ⟨0,some (.box (((cu .u64).row 4 nM.Bits)++ []))⟩) 8 ⟨0,some (.box (((cu .u64).row 4 (fun _=>0))++ []))⟩)⟩
def C4(z:bu)(e:PX)(st:St):Prop:=e= .exit 0∧st=Cm z
def M3(yq:bu)(gQ:Int):St:=⟨(up (up (up u0 2 (dI gQ)) 1 (pt 16)) 0 (pt 8)),(up (up h0 16 ⟨0,some (.box (((cu .u64).row 4 yq.Bits)++ []))⟩) 8 ⟨0,some (.box (((cu .u64).row 4 (fun _=>0))++ []))⟩)⟩
def uo(yq:bu)(gQ:Int):Option ((bu×Int)⊕bu):=((jO (IntKind.i64.wrap (Int.tdiv gQ 64)) 4).bind fun m7=>((bU (decide (0≤(Int.tmod gQ 64)))).bind fun z8=>((jO (IntKind.i64.wrap (Int.tdiv gQ 64)) 4).bind fun m9=>(some (.inl ((bu.mk (upd yq.Bits m9 (cQ .or .u64 (yq.Bits m7) (IntKind.u64.wrap (1*2^(min ((Int.tmod gQ 64):Int).toNat 64)))))),(IntKind.i64.wrap (gQ+8))))))))
theorem Li(hd:1≤d){r:(bu×Int)⊕bu}(hQ:FQ (bG (xE) (C4) r) Q){yq:bu}{gQ:Int}(hS:uo yq gQ=some r): ∀st,au [0,1,2] [(8,.id 8),(16,.id 16)] [] st=M3 yq gQ→ZX d Q ac0 [] st:=by
 intro st he
 refine av he ?_
 unfold uo at hS
 exact aC (bw (cG (cy 3 (aq hS (fun m7 hm7 hS=>di (v:=(.r (.ptr 16 0 (0+m7*1)))) (aD:= []) (some 10) none (.tA 4 1 (tm 9) (tm 8)) (pJ (kk:= .i64) (b:=16) (g:=0) (o:=0) (j:=(IntKind.i64.wrap (Int.tdiv gQ 64))) (by kernel_rfl) (by kernel_rfl) hm7) (di (v:=(.d (.int .u64 (yq.Bits m7)))) (aD:= []) (some 11) none (lf 1 10) (uR (cu .u64) (b:=16) (g:=0) (o:=0+m7*1) (f:=yq.Bits) (nn:=4) (m:=m7) (fo:=0) (pre:= []) (post:= []) (by kernel_rfl) (by kernel_rfl) (by kernel_rfl) (mh hm7) (by kernel_rfl) (by kernel_rfl) (by kernel_rfl)) (cy 2 (aq hS (fun z8 iW hS=>di (v:=(.d (.int .u64 (IntKind.u64.wrap (1*2^(min ((Int.tmod gQ 64):Int).toNat 64)))))) (aD:= []) (some 14) none (.sh .shl (.const (.int .u64 1)) (tm 13)) (PZ (kk:= .u64) (k2:= .i64) (a:=1) (c:=(Int.tmod gQ 64)) (by kernel_rfl) (by kernel_rfl) (aj1 iW)) (cy 2 (aq hS (fun m9 hm9 hS=>di (v:=(.r (.ptr 16 0 (0+m9*1)))) (aD:= []) (some 17) none (.tA 4 1 (tm 16) (tm 8)) (pJ (kk:= .i64) (b:=16) (g:=0) (o:=0) (j:=(IntKind.i64.wrap (Int.tdiv gQ 64))) (by kernel_rfl) (by kernel_rfl) hm9) (di (v:= .un) (aD:= [(16,⟨0,some (.box (((cu .u64).row 4 (upd yq.Bits m9 (cQ .or .u64 (yq.Bits m7) (IntKind.u64.wrap (1*2^(min ((Int.tmod gQ 64):Int).toNat 64))))))++ []))⟩)]) none none (.store 1 (tm 17) (tm 15)) (CJ (cu .u64) (b:=16) (g:=0) (o:=0+m9*1) (f:=yq.Bits) (nn:=4) (m:=m9) (fo:=0) (pre:= []) (post:= []) (by kernel_rfl) (by kernel_rfl) (by kernel_rfl) (mh hm9) (new:=((.d (.int .u64 (cQ .or .u64 (yq.Bits m7) (IntKind.u64.wrap (1*2^(min ((Int.tmod gQ 64):Int).toNat 64)))))):: [])) (ds:= [.int .u64 (cQ .or .u64 (yq.Bits m7) (IntKind.u64.wrap (1*2^(min ((Int.tmod gQ 64):Int).toNat 64))))]) (z':=(cQ .or .u64 (yq.Bits m7) (IntKind.u64.wrap (1*2^(min ((Int.tmod gQ 64):Int).toNat 64))))) (by kernel_rfl) (by kernel_rfl) (by kernel_rfl) (by kernel_rfl) (by kernel_rfl) (by kernel_rfl)) (fG (lK hS hQ)))))))))))))))
def zQ(x:bu×Int):Option ((bu×Int)⊕bu):=(bif (decide (x.2≤248)) then (uo x.1 x.2) else (some (.inr x.1)))
theorem UJ(hd:1≤d){r:(bu×Int)⊕bu}(hQ:FQ (bG (xE) (C4) r) Q){x:bu×Int}(hS:zQ x=some r)(he:xE x st):ZX d Q ac1 [] st:=by
 refine av he ?_
 unfold zQ at hS
 refine aC (zS (zL 1 (sB 4 hS (fun hS=>?_) (fun hS=>?_))))
 ·exact jL (Li hd hQ hS)
 ·exact zK (zF (av (J:=Cm x.1) (by kernel_rfl) (cX (cV (bg (jw hS hQ))))))
def f102:Option (bu):=((b9 (zQ) ((bu.mk (fun _=>0)),8)).bind fun dh=>(some dh))
theorem aqt{d:Nat}(hd:1≤d){r:bu}(hS:f102=some r):bZ ay aX d 102 [] []=some ((.agg (((cu .u64).row 4 r.Bits)++ [])),[]):=by
 refine cI hd (fun Q hQ=>?_) afJ
 unfold f102 at hS
 show ZR _ Q ac2 [] _
 replace hQ:FQ (awG r) Q:=hQ
 refine zS (zL 1 (zK (zS (zL 1 (zK (aC (zS (zL 1 (zK (bw (aq hS (fun dh iT hS=>dF (xE) (C4) (fun x st r Q h0 hS hQ=>UJ hd hQ hS h0) (x:=((bu.mk (fun _=>0)),8)) (z:=dh) (by show au _ _ _ _=_;kernel_rfl) iT ?_))))))))))))
 intro e bl _ hX
 obtain ⟨rfl,rfl⟩:_∧_:=hX
 exact nK hS hQ
/- farwriter/screen.New -/
def aqu(p6:aA)(p7:Int):St:=⟨(up (up u0 5 (dI p7)) 4 (pt 40)),(up (up (up h0 192 ⟨0,some (aJ p6)⟩) 273 ⟨0,some (aH p6)⟩) 40 ⟨0,some (.box (kM p6 (.r (.aL 273 0 0 p6.aG.Cells.length)) (.r (.aL 192 0 0 p6.aT.Cells.length)) .nil))⟩)⟩
theorem UK{p6:aA}{p7:Int}:cN (aqu p6 p7) 0 c68.res=some ((.bH [(akh p6),(dI p7)]),[]):=by
 exact iP (ids:= []) (ids':= [273,192]) (l:= [(.agg ((dI p6.aG.bR)::((dI p6.aG.bW)::((.r (.aL 273 0 0 p6.aG.Cells.length))::((dI p6.Row)::((dI p6.cP)::((dB p6.eK)::((dI p6.ji)::((dI p6.cT)::((dI p6.bP.Flags)::((dI p6.bP.dP)::((dI p6.bP.dm)::((dI p6.eE)::(((cu .u64).row 4 p6.eU.Bits)++((dI p6.bp.1)::((dI p6.bp.2)::((dI p6.cC)::((dI p6.aI.Row)::((dI p6.aI.cP)::((dI p6.aI.bP.Flags)::((dI p6.aI.bP.dP)::((dI p6.aI.bP.dm)::((dB p6.aI.Origin)::((dI p6.aI.bp.1)::((dI p6.aI.bp.2)::((dI p6.aI.cC)::((dI p6.aT.bR)::((dI p6.aT.bW)::((.r (.aL 192 0 0 p6.aT.Cells.length))::((.d (.str p6.gz))::(.nil:: []))))))))))))))))))))))))))))))),(dI p7)]) (by kernel_rfl) (by kernel_rfl) (CO (aO (CN (aO rfl (aO rfl (aO (g_ aj (e:=87) (k:=4) (xs:=p6.aG.Cells) (by kernel_rfl) rfl rfl rfl rfl) (aO rfl (aO rfl (aO rfl (aO rfl (aO rfl (aO rfl (aO rfl (aO rfl (aO rfl (P4 (P5 (cu .u64)) (aO rfl (aO rfl (aO rfl (aO rfl (aO rfl (aO rfl (aO rfl (aO rfl (aO rfl (aO rfl (aO rfl (aO rfl (aO rfl (aO rfl (aO (g_ aj (e:=87) (k:=4) (xs:=p6.aT.Cells) (by kernel_rfl) rfl rfl rfl rfl) (aO rfl (aO rfl nH))))))))))))))))))))))))))))))) (aO rfl nH)))
def aqv(r:aA×Int)(e:PX)(st:St):Prop:=aU c68 0 ((.bH [(akh r.1),(dI r.2)]),[]) e st
def ah5(a1 a2:Int)(fH ig:Int)(jZ:List ah):St:=⟨(up (up (up u0 6 (pt 56)) 4 (pt 40)) 1 (dI a2)),(up (up (up h0 112 ⟨0,some (.own 87 4 (aj.cells jZ))⟩) 56 ⟨0,some (.box ((dI fH)::((dI ig)::((.r (.aL 112 0 0 jZ.length)):: []))))⟩) 40 nt)⟩
def IJ(a1 a2:Int)(fH ig:Int)(jZ:List ah):Option (aA×Int):=((f69 (bS.mk fH ig jZ)).bind fun z5=>(f102.bind fun z6=>(some ((aA.mk (bS.mk fH ig jZ) 0 0 false 0 a2 (bA.mk 0 0 0) 12 z6 (1,1) 0 (tM.mk 0 0 (bA.mk 0 0 0) false (1,1) 0) (bS.mk z5.1 z5.2.1 z5.2.2) ([]) ([])),0))))
theorem YL(hd:6≤d){a1 a2:Int}{r:aA×Int}(hQ:FQ (aqv r) Q){fH ig:Int}{jZ:List ah}(hS:IJ a1 a2 fH ig jZ=some r): ∀st,au [1,4,6] [(40,.id 40),(56,.id 56),(112,.id 112)] [.cell 40 2 0 0 1,.cell 40 30 0 0 1,.cell 40 32 0 0 1] st=ah5 a1 a2 fH ig jZ→ZX d Q ant [] st:=by
 intro st he
 refine av he ?_
 unfold IJ at hS
 exact zS (zL 3 (zK (aC (cG (cy 2 (aq hS (fun z5 jQ hS=>di (some 23) none (c1 69 22) (iK (args:= [(.agg ((dI fH)::((dI ig)::((.r (.aL 112 0 0 jZ.length)):: []))))]) (by kernel_rfl) (jy (aj4 (lk (lk (jy (uB aj (e:=87) (k:=4) (xs:=jZ) (by kernel_rfl) rfl rfl) mF)))) mF) (Q4 (aV hd rfl) jQ) (by simp only [oy aj (fun _=>rfl),oz,oA,rX,rY,oB,mE,oC,rZ,r_,si,Bool.and_true,Bool.or_true,Bool.and_self]) (by kernel_rfl)) (cy 1 (aq hS (fun z6 l9 hS=>di (some 25) none (.call 102 []) (b_ (aqt (aV hd rfl) l9)) (cy 6 (fG (cq (cL (bg (dW hS hQ (fR UK)))))))))))))))))
def f68(a1 a2:Int):Option (aA×Int):=((f101 a1 a2 (bA.mk 0 0 0)).bind fun z4=>(bif (!decide (z4.2.2.2=0)) then (some ((aA.mk (bS.mk 0 0 ([])) 0 0 false 0 0 (bA.mk 0 0 0) 0 (bu.mk (fun _=>0)) (0,0) 0 (tM.mk 0 0 (bA.mk 0 0 0) false (0,0) 0) (bS.mk 0 0 ([])) ([]) ([])),z4.2.2.2)) else (IJ a1 a2 z4.1 z4.2.1 z4.2.2.1)))
theorem awH{d:Nat}(hd:6≤d){a1 a2:Int}{r:aA×Int}(hS:f68 a1 a2=some r):bZ ay aX d 68 [(dI a1),(dI a2)] []=some ((.bH [(akh r.1),(dI r.2)]),[]):=by
 refine cI hd (fun Q hQ=>?_) aoO
 unfold f68 at hS
 show ZR _ Q anu [] _
 replace hQ:FQ (aqv r) Q:=hQ
 refine zS (zL 2 (zK (zS (zL 3 (aq hS (fun z4 iZ hS=>zC 13 (aqs (aV hd rfl) iZ) (zL 6 (zK (aC (zS (zL 1 (sB 17 hS (fun hS=>?_) (fun hS=>?_)))))))))))))
 ·exact zK (zT (zS (zL 4 (zK (cL (bQ (bg (dW hS hQ (fR UK)))))))))
 ·exact jL (YL hd hQ hS)
/- (*farwriter/screen.terminal).reset -/
def awI(r:ag×(List bF))(e:PX)(st:St):Prop:=aU ac5 4 ((.bH []),[(lF r.1),(aH r.1.af),(aJ r.1.af),(.own 111 1 (bE.cells r.2))]) e st
def f224(a1:ag):Option (ag×(List bF)):=((f68 a1.af.aG.bR a1.af.aG.bW).bind fun z2=>(some ((ag.mk ({z2.1 with bn:= []}) a1.sent),a1.af.bn)))
theorem aqw{d:Nat}(hd:7≤d){a1:ag}{r:ag×(List bF)}(hS:f224 a1=some r):bZ ay aX d 224 [(pt 0)] [(ek a1),(aH a1.af),(aJ a1.af),(aN a1.af)]=some ((.bH []),[(lF r.1),(aH r.1.af),(aJ r.1.af),(.own 111 1 (bE.cells r.2))]):=by
 refine cI hd (fun Q hQ=>?_) agu
 unfold f224 at hS
 show ZR _ Q ac4 [] _
 replace hQ:FQ (awI r) Q:=hQ
 exact cG (cy 13 (aq hS (fun z2 hz2 hS=>di (some 16) none (.call 68 [(tm 9),(tm 15)]) (b_ (awH (aV hd rfl) hz2)) (cy 6 (fG (nK hS hQ))))))
end
end Go.Proofs.YtimbfadnabfabaaGreatDoor.Pm
