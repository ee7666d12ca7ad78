/- Typed functions, and that the codes are these. Printed by dec.py. -/
import Derived.Test.YtimbfadnabfabaaGreatDoorDMoM
namespace Go.Proofs.YtimbfadnabfabaaGreatDoor.Pm
noncomputable section
set_option maxRecDepth 1000000
set_option maxHeartbeats 20000000
set_option linter.unusedVariables false
set_option linter.unusedSimpArgs false
variable {d : Nat} {Q : PQ} {st : St}
/- (*farwriter/screen.terminal).other -/
def aep(r:ag)(e:PX)(st:St):Prop:=aU adC 4 ((.bH []),[(ek r),(aH r.af),(aJ r.af),(aN r.af)]) e st
def YY(a1:aM)(a2 a3:Int)(a4:ag):St:=⟨(up (up (up (up (up (up (up (up (up u0 1000003 .un) 1000002 .un) 1000001 .un) 45 (dB false)) 14 (dI a1.Code)) 5 (pt 48)) 3 (dI a3)) 2 (dI a2)) 0 (pt 0)),(up (up (up (up (up h0 48 ⟨0,some (.box (J4 a1 (dL a1.Args)))⟩) 3 ⟨1,some (aN a4.af)⟩) 2 ⟨1,some (aJ a4.af)⟩) 1 ⟨1,some (aH a4.af)⟩) 0 ⟨0,some (l8 a4)⟩)⟩
def EY(a1:aM)(a2 a3:Int)(a4:ag):Option (ag):=(bif (decide (a1.Code=109)) then none else (bif (decide (a1.Code=114)) then none else (bif (decide (a1.Code=110)) then none else (bif (decide (a1.Code=99)) then none else (some a4)))))
theorem U1(hd:1≤d){a1:aM}{a2 a3:Int}{a4 r:ag}(hQ:FQ (aep r) Q)(hS:EY a1 a2 a3 a4=some r): ∀st,au [0,2,3,5,14,45,1000001,1000002,1000003] [(0,.id 0),(1,.id 1),(2,.id 2),(3,.id 3),(48,.id 48)] [] st=YY a1 a2 a3 a4→ZX d Q adA [.blk 0] st:=by
 intro st he
 refine av he ?_
 unfold EY at hS
 refine zF (zS (sB 72 hS (fun hS=>?_) (fun hS=>?_)))
 ·cases hS
 ·refine zL 1 (zK (zF (zS (sB 92 hS (fun hS=>?_) (fun hS=>?_)))))
  ·cases hS
  ·refine zL 1 (zK (zF (zS (sB 131 hS (fun hS=>?_) (fun hS=>?_)))))
   ·cases hS
   ·refine zL 1 (zK (zF (zS (sB 136 hS (fun hS=>?_) (fun hS=>?_)))))
    ·cases hS
    ·exact nL hS hQ
def f229(a1:aM)(a2 a3:Int)(a4:ag):Option (ag):=(bif (decide (a1.Code=103)) then none else (bif (decide (a1.Code=104)) then none else (bif (decide (a1.Code=108)) then none else (EY a1 a2 a3 a4))))
theorem aqE{d:Nat}(hd:1≤d){a1:aM}{a2 a3:Int}{a4 r:ag}(hS:f229 a1 a2 a3 a4=some r):bZ ay aX d 229 [(pt 0),(N1 a1),(dI a2),(dI a3)] [(ek a4),(aH a4.af),(aJ a4.af),(aN a4.af)]=some ((.bH []),[(ek r),(aH r.af),(aJ r.af),(aN r.af)]):=by
 refine cI hd (fun Q hQ=>?_) agz
 unfold f229 at hS
 show ZR _ Q adB [] _
 replace hQ:FQ (aep r) Q:=hQ
 refine zS (zL 1 (zK (zS (zL 2 (zK (bw (zS (sB 16 hS (fun hS=>?_) (fun hS=>?_)))))))))
 ·cases hS
 ·refine zL 1 (zK (zF (aC (zS (sB 46 hS (fun hS=>?_) (fun hS=>?_))))))
  ·cases hS
  ·refine zL 1 (zK (zF (a_ (sB 47 hS (fun hS=>?_) (fun hS=>?_)))))
   ·cases hS
   ·exact jL (U1 hd hQ hS)
/- (*farwriter/screen.terminal).sequence -/
def awM(r:ag)(e:PX)(st:St):Prop:=aU adE 4 ((.bH []),[(ek r),(aH r.af),(aJ r.af),(aN r.af)]) e st
def f191(a1:aM)(a2:ag):Option (ag):=((f225 a1.Args 0).bind fun z9=>((f226 a1.Args 0 0).bind fun dh=>(bif (decide (a1.Mark=0)) then ((f227 a1 z9 a2).bind fun dx=>((bU (decide (dx.1.af.bn.length=a2.af.bn.length))).bind fun f_=>((bU (decide (dx.1.af.aT.Cells.length=a2.af.aT.Cells.length))).bind fun gb=>((bU (decide (dx.1.af.aG.Cells.length=a2.af.aG.Cells.length))).bind fun gS=>(bif (!dx.2) then ((f228 a1.Code z9 dh dx.1).bind fun z20=>(bif (!z20.2) then ((f229 a1 z9 dh z20.1).bind fun z21=>(some z21)) else (some z20.1))) else (some dx.1)))))) else none)))
theorem aqF{d:Nat}(hd:9≤d){a1:aM}{a2 r:ag}(hS:f191 a1 a2=some r):bZ ay aX d 191 [(pt 0),(N1 a1)] [(ek a2),(aH a2.af),(aJ a2.af),(aN a2.af)]=some ((.bH []),[(ek r),(aH r.af),(aJ r.af),(aN r.af)]):=by
 refine cI hd (fun Q hQ=>?_) aga
 unfold f191 at hS
 show ZR _ Q adD [] _
 replace hQ:FQ (awM r) Q:=hQ
 refine zS (zL 1 (zK (aC (cG (cy 2 (aq hS (fun z9 jF hS=>di (some 10) none (.call 225 [(tm 9),(ki 0)]) (b_ (UM (aV hd rfl) jF)) (cy 2 (aq hS (fun dh iT hS=>di (some 13) none (.call 226 [(tm 12),(ki 0),(ki 0)]) (b_ (UL (aV hd rfl) iT)) (cy 2 (fG (cq (bw (zS (zL 2 (sB 17 hS (fun hS=>?_) (fun hS=>?_))))))))))))))))))
 ·refine zL 1 (zK (zT (zS (zL 3 (mH 21 (fun _ h=>aqC (aV hd rfl) h) hS (fun dx ju hS=>zL 2 (sL 23 hS (fun hS=>?_) (fun hS=>?_))))))))
  ·refine zL 5 (aq hS (fun z20 qN hS=>zG (some 29) 23 true (.fU 228 [(tm 24),(tm 26),(tm 27),(tm 28)]) (P9 [0,1,2,3] (aqD (aV hd rfl) qN)) (zL 2 (zK (sR 31 hS (fun hS=>?_) (fun hS=>?_))))))
   ·exact zT (a_ (zL 4 (aq hS (fun z21 p_ hS=>fW 36 [0,1,2,3] (aqE (aV hd rfl) p_) (nL hS hQ)))))
   ·exact nR hS hQ
  ·exact nL hS hQ
 ·cases hS
/- (*farwriter/screen.terminal).act -/
def awN(r:ag)(e:PX)(st:St):Prop:=aU adG 4 ((.bH []),[(ek r),(aH r.af),(aJ r.af),(aN r.af)]) e st
def f146(a1:aM)(a2:ag):Option (ag):=(bif (decide (a1.Kind=1)) then ((f187 a1.Code a2).bind fun z5=>(some z5)) else (bif (decide (a1.Kind=2)) then ((f188 a1.Code a2).bind fun z6=>(some z6)) else (bif (decide (a1.Kind=3)) then (bif (decide (a1.Inter=([]:S8))) then ((f189 a1.Code a2).bind fun z7=>(some z7)) else none) else (bif (decide (a1.Kind=3)) then none else (bif (decide (a1.Kind=5)) then none else (bif (decide (a1.Kind=4)) then (bif (decide (a1.Inter=([]:S8))) then ((f191 a1 a2).bind fun z8=>(some z8)) else none) else (some a2)))))))
theorem aqG{d:Nat}(hd:10≤d){a1:aM}{a2 r:ag}(hS:f146 a1 a2=some r):bZ ay aX d 146 [(pt 0),(N1 a1)] [(ek a2),(aH a2.af),(aJ a2.af),(aN a2.af)]=some ((.bH []),[(ek r),(aH r.af),(aJ r.af),(aN r.af)]):=by
 refine cI hd (fun Q hQ=>?_) afV
 unfold f146 at hS
 show ZR _ Q adF [] _
 replace hQ:FQ (awN r) Q:=hQ
 refine zS (zL 1 (zK (bw (zS (zL 2 (sB 7 hS (fun hS=>?_) (fun hS=>?_)))))))
 ·exact zL 1 (zK (zT (a_ (zL 3 (aq hS (fun z5 jQ hS=>fW 11 [0,1,2,3] (aqm (aV hd rfl) jQ) (nL hS hQ)))))))
 ·refine zL 1 (zK (zF (zS (zL 2 (sB 15 hS (fun hS=>?_) (fun hS=>?_))))))
  ·exact zL 1 (zK (zT (a_ (zL 3 (aq hS (fun z6 l9 hS=>fW 19 [0,1,2,3] (aqn (aV hd rfl) l9) (nL hS hQ)))))))
  ·refine zL 1 (zK (zF (zS (zL 2 (sB 23 hS (fun hS=>?_) (fun hS=>?_))))))
   ·refine zL 3 (sB 27 hS (fun hS=>?_) (fun hS=>?_))
    ·exact zL 2 (zK (zT (a_ (zL 3 (aq hS (fun z7 kO hS=>fW 32 [0,1,2,3] (aqx (aV hd rfl) kO) (nL hS hQ)))))))
    ·cases hS
   ·refine zL 6 (zK (zF (zS (zL 2 (sB 36 hS (fun hS=>?_) (fun hS=>?_))))))
    ·cases hS
    ·refine zL 1 (zK (zF (zS (zL 2 (sB 46 hS (fun hS=>?_) (fun hS=>?_))))))
     ·cases hS
     ·refine zL 1 (zK (zF (zS (zL 2 (sB 65 hS (fun hS=>?_) (fun hS=>?_))))))
      ·refine zL 3 (sB 69 hS (fun hS=>?_) (fun hS=>?_))
       ·exact zL 2 (zK (zT (a_ (zL 2 (aq hS (fun z8 iW hS=>fW 73 [0,1,2,3] (aqF (aV hd rfl) iW) (nL hS hQ)))))))
       ·cases hS
      ·exact nL hS hQ
/- farwriter/screen.Run -/
def ah7(U2:aA)(oX:S8)(nu:Int):St:=⟨(up (up (up u0 6 (dI nu)) 5 (.d (.str oX))) 4 (pt 40)),(yX h0 U2 40 420 421 422)⟩
theorem Gc{U2:aA}{oX:S8}{nu:Int}:cN (ah7 U2 oX nu) 0 Tn.res=some ((.bH [(.agg (eX U2)),(.d (.str oX)),(dI nu)]),[]):=by
 exact iP (ids:= []) (ids':= [420,421,422]) (l:= [(.agg (bX U2 420 0 421 0 422 0)),(.d (.str oX)),(dI nu)]) (by kernel_rfl) (by kernel_rfl) (CO (aO (CN (aO rfl (aO rfl (aO (g_ aj (e:=87) (k:=4) (xs:=U2.aG.Cells) (by kernel_rfl) rfl rfl rfl rfl) (aO rfl (aO rfl (aO rfl (aO rfl (aO rfl (aO rfl (aO rfl (aO rfl (aO rfl (P4 (P5 (cu .u64)) (aO rfl (aO rfl (aO rfl (aO rfl (aO rfl (aO rfl (aO rfl (aO rfl (aO rfl (aO rfl (aO rfl (aO rfl (aO rfl (aO rfl (aO (g_ aj (e:=87) (k:=4) (xs:=U2.aT.Cells) (by kernel_rfl) rfl rfl rfl rfl) (aO rfl (aO (g_ bE (e:=111) (k:=1) (xs:=U2.bn) (by kernel_rfl) rfl rfl rfl rfl) nH))))))))))))))))))))))))))))))) (aO rfl (aO rfl nH))))
def IK(r:aA×S8×Int)(e:PX)(st:St):Prop:=aU Tn 0 ((.bH [(.agg (eX r.1)),(.d (.str r.2.1)),(dI r.2.2)]),[]) e st
def YZ(a1:aA)(a2:List aM)(fS:ag):St:=⟨(up (up u0 9 (pt 240)) 4 (pt 40)),(jY fS)⟩
def Ln(a1:aA)(a2:List aM)(fS:ag):Option (aA×S8×Int):=(some (fS.af,fS.sent,0))
theorem U3(hd:11≤d){a1:aA}{a2:List aM}{r:aA×S8×Int}(hQ:FQ (IK r) Q){fS:ag}(hS:Ln a1 a2 fS=some r): ∀st,au [4,9] [(40,.id 40),(240,.id 240),(224,.id 224),(225,.id 225),(226,.id 226)] [] st=YZ a1 a2 fS→ZX d Q adK [] st:=by
 intro st he
 refine av he ?_
 unfold Ln at hS
 exact aC (cG (cy 11 (fG (cq (cL (bg (dW hS hQ (fR Gc))))))))
def Y0(a1:aA)(a2:List aM)(x:ag×Int):St:=⟨(up (up (up (up (up u0 32 (dI x.2)) 31 (dI (a2.length:Int))) 30 (dE bD a2)) 9 (pt 240)) 4 (pt 40)),(jY x.1)⟩
def th(a1:aA)(a2:List aM)(x:ag×Int)(st:St):Prop:=au [4,9,30,31,32] [(40,.id 40),(240,.id 240),(224,.id 224),(225,.id 225),(226,.id 226)] [] st=Y0 a1 a2 x
def Co(a1:aA)(a2:List aM)(jG:ag):St:=⟨(up (up u0 9 (pt 240)) 4 (pt 40)),(jY jG)⟩
def xG(a1:aA)(a2:List aM)(z:ag)(e:PX)(st:St):Prop:=e= .exit 0∧st=Co a1 a2 z
def M6(a1:aA)(a2:List aM)(nI:ag)(tG:Int):St:=⟨(up (up (up (up (up u0 32 (dI tG)) 31 (dI (a2.length:Int))) 30 (dE bD a2)) 9 (pt 240)) 4 (pt 40)),(jY nI)⟩
def uv(a1:aA)(a2:List aM)(nI:ag)(tG:Int):Option ((ag×Int)⊕ag):=((idx a2 tG).bind fun z23=>((f146 z23 nI).bind fun z24=>(some (.inl (z24,(IntKind.i64.wrap (tG+1)))))))
theorem Lp(hd:11≤d){a1:aA}{a2:List aM}{r:(ag×Int)⊕ag}(hQ:FQ (bG (th a1 a2) (xG a1 a2) r) Q){nI:ag}{tG:Int}(hS:uv a1 a2 nI tG=some r): ∀st,au [4,9,30,31,32] [(40,.id 40),(240,.id 240),(224,.id 224),(225,.id 225),(226,.id 226)] [] st=M6 a1 a2 nI tG→ZX d Q adH [] st:=by
 intro st he
 refine av he ?_
 unfold uv at hS
 exact aC (bw (zS (aq hS (fun z23 y5 hS=>zO (v:=(.cD (bD.enc z23++(bD.cells (a2.drop ((tG:Int).toNat+1)))))) (aD:= []) (some 34) (.jc 248 6 (tm 30) (tm 32)) (eY bD (kk:= .i64) (xs:=a2) (j:=tG) (by kernel_rfl) (by kernel_rfl) y5 rfl (by intro h;cases h)) (zL 3 (zK (a_ (zL 2 (aq hS (fun z24 qO hS=>fW 38 [240,224,225,226] (aqG (aV hd rfl) qO) (lL hS hQ)))))))))))
def M7(a1:aA)(a2:List aM)(fe:ag)(jk:Int)(ny:Bool):St:=⟨(up (up (up (up (up (up u0 33 (dB ny)) 32 (dI jk)) 31 (dI (a2.length:Int))) 30 (dE bD a2)) 9 (pt 240)) 4 (pt 40)),(jY fe)⟩
def ni(a1:aA)(a2:List aM)(fe:ag)(jk:Int)(ny:Bool):Option ((ag×Int)⊕ag):=(bif ny then (uv a1 a2 fe jk) else (some (.inr fe)))
theorem Ac(hd:11≤d){a1:aA}{a2:List aM}{r:(ag×Int)⊕ag}(hQ:FQ (bG (th a1 a2) (xG a1 a2) r) Q){fe:ag}{jk:Int}{ny:Bool}(hS:ni a1 a2 fe jk ny=some r): ∀st,au [4,9,30,31,32,33] [(40,.id 40),(240,.id 240),(224,.id 224),(225,.id 225),(226,.id 226)] [] st=M7 a1 a2 fe jk ny→ZX d Q adI [] st:=by
 intro st he
 refine av he ?_
 unfold ni at hS
 refine aC (sR 33 hS (fun hS=>?_) (fun hS=>?_))
 ·exact jR (Lp hd hQ hS)
 ·exact zF (av (J:=Co a1 a2 fe) (by kernel_rfl) (cX (cV (bg (jw hS hQ)))))
def nW(a1:aA)(a2:List aM)(x:ag×Int):Option ((ag×Int)⊕ag):=(bif (decide (x.2<(a2.length:Int))) then (ni a1 a2 x.1 x.2 true) else (ni a1 a2 x.1 x.2 false))
theorem U4(hd:11≤d){a1:aA}{a2:List aM}{r:(ag×Int)⊕ag}(hQ:FQ (bG (th a1 a2) (xG a1 a2) r) Q){x:ag×Int}(hS:nW a1 a2 x=some r)(he:th a1 a2 x st):ZX d Q adJ [] st:=by
 refine av he ?_
 unfold nW at hS
 refine zS (sB 33 hS (fun hS=>?_) (fun hS=>?_))
 ·exact zK (Ac hd hQ hS _ (by kernel_rfl))
 ·exact jL (Ac hd hQ hS)
def Y1(a1:aA)(a2:List aM):St:=⟨(up (up (up u0 4 (pt 40)) 2 (pt 24)) 1 (dE bD a2)),(up (up h0 40 nt) 24 ⟨0,some (.box (bK a1))⟩)⟩
def EZ(a1:aA)(a2:List aM):Option (aA×S8×Int):=((f38 a1).bind fun dx=>((b9 (nW a1 a2) ((ag.mk dx ([])),0)).bind fun z25=>(Ln a1 a2 z25)))
theorem U5(hd:11≤d){a1:aA}{a2:List aM}{r:aA×S8×Int}(hQ:FQ (IK r) Q)(hS:EZ a1 a2=some r): ∀st,au [1,2,4] [(24,.id 24),(40,.id 40)] [] st=Y1 a1 a2→ZX d Q adM [] st:=by
 intro st he
 refine av he ?_
 unfold EZ at hS
 refine zS (zL 1 (aq hS (fun dx ju hS=>zO (v:=(.agg (bX dx 224 1 225 1 226 1))) (aD:= [(224,⟨1,some (aH dx)⟩),(225,⟨1,some (aJ dx)⟩),(226,⟨1,some (aN dx)⟩)]) (some 27) (.jn 38 [(tm 26)]) (ja (args:= [(.agg (bK a1))]) (args':= [(.agg (bK a1))]) (l:= [(.agg (bK a1))]) (refs:= []) (r:=(.agg (eX dx))) (v:=(.agg (bX dx 224 1 225 1 226 1))) (od:= [(224,⟨1,some (aH dx)⟩),(225,⟨1,some (aJ dx)⟩),(226,⟨1,some (aN dx)⟩)]) (by kernel_rfl) (by kernel_rfl) (by kernel_rfl) (gR rfl mj) (by kernel_rfl) (IG (aV hd rfl) ju) (by kernel_rfl) (by kernel_rfl) (by kernel_rfl) (by kernel_rfl)) (zL 3 (zK (aC (zS (zL 3 (zK (bw (aq hS (fun z25 vB hS=>dF (th a1 a2) (xG a1 a2) (fun x st r Q h0 hS hQ=>U4 hd hQ hS h0) (x:=((ag.mk dx ([])),0)) (z:=z25) (by show au _ _ _ _=_;kernel_rfl) vB ?_))))))))))))
 intro e bl _ hX
 obtain ⟨rfl,rfl⟩:_∧_:=hX
 exact jK (U3 hd hQ hS)
def Y2(a1:aA)(a2:List aM):St:=⟨(up (up (up u0 4 (pt 40)) 2 (pt 24)) 1 (dE bD a2)),(up (up h0 40 nt) 24 ⟨0,some (.box (bK a1))⟩)⟩
def E0(a1:aA)(a2:List aM):Option (aA×S8×Int):=((f145 a2).bind fun z26=>(bif (!decide (z26=0)) then ((f38 a1).bind fun yu=>(some (yu,[],z26))) else (EZ a1 a2)))
theorem U6(hd:11≤d){a1:aA}{a2:List aM}{r:aA×S8×Int}(hQ:FQ (IK r) Q)(hS:E0 a1 a2=some r): ∀st,au [1,2,4] [(24,.id 24),(40,.id 40)] [.cell 40 2 0 0 1,.cell 40 30 0 0 1,.cell 40 32 0 0 1] st=Y2 a1 a2→ZX d Q adN [] st:=by
 intro st he
 refine av he ?_
 unfold E0 at hS
 refine aC (zS (zL 1 (aq hS (fun z26 uY hS=>zC 20 (apY (aV hd rfl) uY) (zL 1 (zK (zS (zL 1 (sB 22 hS (fun hS=>?_) (fun hS=>?_))))))))))
 ·exact zK (zT (zS (zL 1 (aq hS (fun yu ayQ hS=>zO (v:=(.agg (bX yu 200 1 201 1 202 1))) (aD:= [(200,⟨1,some (aH yu)⟩),(201,⟨1,some (aJ yu)⟩),(202,⟨1,some (aN yu)⟩)]) (some 24) (.jn 38 [(tm 23)]) (ja (args:= [(.agg (bK a1))]) (args':= [(.agg (bK a1))]) (l:= [(.agg (bK a1))]) (refs:= []) (r:=(.agg (eX yu))) (v:=(.agg (bX yu 200 1 201 1 202 1))) (od:= [(200,⟨1,some (aH yu)⟩),(201,⟨1,some (aJ yu)⟩),(202,⟨1,some (aN yu)⟩)]) (by kernel_rfl) (by kernel_rfl) (by kernel_rfl) (gR rfl mj) (by kernel_rfl) (IG (aV hd rfl) ayQ) (by kernel_rfl) (by kernel_rfl) (by kernel_rfl) (by kernel_rfl)) (zL 4 (zK (cL (bQ (bg (dW hS hQ (fR Gc))))))))))))
 ·exact jL (U5 hd hQ hS)
def f108(a1:aA)(a2:List aM):Option (aA×S8×Int):=((f22 a1).bind fun z28=>(bif (!decide (z28=0)) then ((f38 a1).bind fun oZ=>(some (oZ,[],z28))) else (E0 a1 a2)))
theorem aqH{d:Nat}(hd:11≤d){a1:aA}{a2:List aM}{r:aA×S8×Int}(hS:f108 a1 a2=some r):bZ ay aX d 108 [(.agg (bK a1)),(dE bD a2)] []=some ((.bH [(.agg (eX r.1)),(.d (.str r.2.1)),(dI r.2.2)]),[]):=by
 refine cI hd (fun Q hQ=>?_) afM
 unfold f108 at hS
 show ZR _ Q adO [] _
 replace hQ:FQ (IK r) Q:=hQ
 refine zS (zL 4 (zK (aC (zS (zL 1 (aq hS (fun z28 TC hS=>zC 13 (ad3 (aV hd rfl) TC) (zL 1 (zK (zS (zL 1 (sB 15 hS (fun hS=>?_) (fun hS=>?_)))))))))))))
 ·exact zK (zT (zS (zL 1 (aq hS (fun oZ KB hS=>zO (v:=(.agg (bX oZ 144 1 145 1 146 1))) (aD:= [(144,⟨1,some (aH oZ)⟩),(145,⟨1,some (aJ oZ)⟩),(146,⟨1,some (aN oZ)⟩)]) (some 17) (.jn 38 [(tm 16)]) (ja (args:= [(.agg (bK a1))]) (args':= [(.agg (bK a1))]) (l:= [(.agg (bK a1))]) (refs:= []) (r:=(.agg (eX oZ))) (v:=(.agg (bX oZ 144 1 145 1 146 1))) (od:= [(144,⟨1,some (aH oZ)⟩),(145,⟨1,some (aJ oZ)⟩),(146,⟨1,some (aN oZ)⟩)]) (by kernel_rfl) (by kernel_rfl) (by kernel_rfl) (gR rfl mj) (by kernel_rfl) (IG (aV hd rfl) KB) (by kernel_rfl) (by kernel_rfl) (by kernel_rfl) (by kernel_rfl)) (zL 4 (zK (cL (bQ (bg (dW hS hQ (fR Gc))))))))))))
 ·exact jL (U6 hd hQ hS)
/- farwriter/draw.Show -/
def ah8(p2:aA)(p3:S8)(p4:Int):St:=⟨(up (up (up u0 6 (dI p4)) 5 (.d (.str p3))) 4 (pt 40)),(yX h0 p2 40 160 161 162)⟩
theorem ah9{p2:aA}{p3:S8}{p4:Int}:cN (ah8 p2 p3 p4) 0 Tp.res=some ((.bH [(.agg (eX p2)),(.d (.str p3)),(dI p4)]),[]):=by
 exact iP (ids:= []) (ids':= [160,161,162]) (l:= [(.agg (bX p2 160 0 161 0 162 0)),(.d (.str p3)),(dI p4)]) (by kernel_rfl) (by kernel_rfl) (CO (aO (CN (aO rfl (aO rfl (aO (g_ aj (e:=87) (k:=4) (xs:=p2.aG.Cells) (by kernel_rfl) rfl rfl rfl rfl) (aO rfl (aO rfl (aO rfl (aO rfl (aO rfl (aO rfl (aO rfl (aO rfl (aO rfl (P4 (P5 (cu .u64)) (aO rfl (aO rfl (aO rfl (aO rfl (aO rfl (aO rfl (aO rfl (aO rfl (aO rfl (aO rfl (aO rfl (aO rfl (aO rfl (aO rfl (aO (g_ aj (e:=87) (k:=4) (xs:=p2.aT.Cells) (by kernel_rfl) rfl rfl rfl rfl) (aO rfl (aO (g_ bE (e:=111) (k:=1) (xs:=p2.bn) (by kernel_rfl) rfl rfl rfl rfl) nH))))))))))))))))))))))))))))))) (aO rfl (aO rfl nH))))
def aeq(r:aA×S8×Int)(e:PX)(st:St):Prop:=aU Tp 0 ((.bH [(.agg (eX r.1)),(.d (.str r.2.1)),(dI r.2.2)]),[]) e st
def Y3(a1:aA)(a2:List Int)(p5:List aM):St:=⟨(up (up (up u0 8 (dE bD p5)) 4 (pt 40)) 2 (pt 24)),(up (up h0 40 nt) 24 ⟨0,some (.box (bK a1))⟩)⟩
def E1(a1:aA)(a2:List Int)(p5:List aM):Option (aA×S8×Int):=((f108 a1 p5).bind fun z4=>(some (z4.1,z4.2.1,z4.2.2)))
theorem U7(hd:12≤d){a1:aA}{a2:List Int}{r:aA×S8×Int}(hQ:FQ (aeq r) Q){p5:List aM}(hS:E1 a1 a2 p5=some r): ∀st,au [2,4,8] [(24,.id 24),(40,.id 40)] [.cell 40 2 0 0 1,.cell 40 30 0 0 1,.cell 40 32 0 0 1] st=Y3 a1 a2 p5→ZX d Q adP [] st:=by
 intro st he
 refine av he ?_
 unfold E1 at hS
 exact zS (zL 2 (aq hS (fun z4 iZ hS=>zO (v:=(.bH [(.agg (bX z4.1 160 1 161 1 162 1)),(.d (.str z4.2.1)),(dI z4.2.2)])) (aD:= [(160,⟨1,some (aH z4.1)⟩),(161,⟨1,some (aJ z4.1)⟩),(162,⟨1,some (aN z4.1)⟩)]) (some 19) (.jn 108 [(tm 17),(tm 18)]) (ja (args:= [(.agg (bK a1)),(dE bD p5)]) (args':= [(.agg (bK a1)),(dE bD p5)]) (l:= [(.agg (bK a1)),(dE bD p5)]) (refs:= []) (r:=(.bH [(.agg (eX z4.1)),(.d (.str z4.2.1)),(dI z4.2.2)])) (v:=(.bH [(.agg (bX z4.1 160 1 161 1 162 1)),(.d (.str z4.2.1)),(dI z4.2.2)])) (od:= [(160,⟨1,some (aH z4.1)⟩),(161,⟨1,some (aJ z4.1)⟩),(162,⟨1,some (aN z4.1)⟩)]) (by kernel_rfl) (by kernel_rfl) (by kernel_rfl) (gR rfl (gR rfl mj)) (by kernel_rfl) (aqH (aV hd rfl) iZ) (by kernel_rfl) (by kernel_rfl) (by kernel_rfl) (by kernel_rfl)) (zL 6 (zK (cL (bg (dW hS hQ (fR ah9)))))))))
def f114(a1:aA)(a2:List Int):Option (aA×S8×Int):=((f107 (aS.mk 0 0 ([]) ([]) ([])) a2).bind fun z3=>(E1 a1 a2 z3.2.1))
theorem aqI{d:Nat}(hd:12≤d){a1:aA}{a2:List Int}{r:aA×S8×Int}(hS:f114 a1 a2=some r):bZ ay aX d 114 [(.agg (bK a1)),(dL a2)] []=some ((.bH [(.agg (eX r.1)),(.d (.str r.2.1)),(dI r.2.2)]),[]):=by
 refine cI hd (fun Q hQ=>?_) afN
 unfold f114 at hS
 show ZR _ Q adQ [] _
 replace hQ:FQ (aeq r) Q:=hQ
 exact zS (zL 4 (zK (zS (zL 2 (aq hS (fun z3 hz3 hS=>zO (v:=(.bH [(.agg (sx z3.1)),(.r (.aL 112 1 0 z3.2.1.length)),(dI z3.2.2)])) (aD:= [(112,⟨1,some (.own 248 6 (bD.cells z3.2.1))⟩)]) (some 13) (.jn 107 [(tm 11),(tm 12)]) (ja (args:= [(.agg DO),(dL a2)]) (args':= [(.agg DO),(dL a2)]) (l:= [(.agg DO),(dL a2)]) (refs:= []) (r:=(.bH [(.agg (sx z3.1)),(.r (.own 0 248 6 z3.2.1.length (bD.cells z3.2.1))),(dI z3.2.2)])) (v:=(.bH [(.agg (sx z3.1)),(.r (.aL 112 1 0 z3.2.1.length)),(dI z3.2.2)])) (od:= [(112,⟨1,some (.own 248 6 (bD.cells z3.2.1))⟩)]) (by kernel_rfl) (by kernel_rfl) (by kernel_rfl) (gR rfl (gR rfl mj)) (by kernel_rfl) (apT (aV hd rfl) hz3) (by kernel_rfl) (by kernel_rfl) (by kernel_rfl) (by kernel_rfl)) (zL 8 (zK (U7 hd hQ hS _ (by exact (by kernel_rfl:_=(⟨(up (up (up u0 8 (.d (.sl z3.2.1.length (((bD.cells z3.2.1).drop (0*bD.k)).take (z3.2.1.length*bD.k))))) 4 (pt 40)) 2 (pt 24)),(up (up h0 40 nt) 24 ⟨0,some (.box (bK a1))⟩)⟩:St)).trans (by simp only [cS.P3];kernel_rfl)))))))))))
/- (*farwriter/client.worker).display -/
def U8(p2:bf):St:=⟨u0,(up h0 0 ⟨0,some (wK p2)⟩)⟩
theorem aqJ{p2:bf}:cN (U8 p2) 1 Xc.res=some ((.bH []),[(wK p2)]):=by
 kernel_rfl
def aqK(r:bf)(e:PX)(st:St):Prop:=aU Xc 1 ((.bH []),[(wK r)]) e st
def ah_(a1:S8)(a2:bf)(p3:List Int):St:=⟨(up (up u0 5 (dL p3)) 0 (pt 0)),(up h0 0 ⟨0,some (wK a2)⟩)⟩
def IL(a1:S8)(a2:bf)(p3:List Int):Option (bf):=((f114 a2.Client.af p3).bind fun z6=>(some (bf.mk ({a2.Client with af:=z6.1}) a2.sent)))
theorem Y4(hd:13≤d){a1:S8}{a2 r:bf}(hQ:FQ (aqK r) Q){p3:List Int}(hS:IL a1 a2 p3=some r): ∀st,au [0,5] [(0,.id 0)] [] st=ah_ a1 a2 p3→ZX d Q anM [] st:=by
 intro st he
 refine av he ?_
 unfold IL at hS
 exact a_ (zL 7 (aq hS (fun z6 l9 hS=>zO (v:=(.bH [(.agg (bX z6.1 184 1 185 1 186 1)),(.d (.str z6.2.1)),(dI z6.2.2)])) (aD:= [(184,⟨1,some (aH z6.1)⟩),(185,⟨1,some (aJ z6.1)⟩),(186,⟨1,some (aN z6.1)⟩)]) (some 22) (.jn 114 [(tm 20),(tm 21)]) (ja (args:= [(.agg (bK a2.Client.af)),(dL p3)]) (args':= [(.agg (bK a2.Client.af)),(dL p3)]) (l:= [(.agg (bK a2.Client.af)),(dL p3)]) (refs:= []) (r:=(.bH [(.agg (eX z6.1)),(.d (.str z6.2.1)),(dI z6.2.2)])) (v:=(.bH [(.agg (bX z6.1 184 1 185 1 186 1)),(.d (.str z6.2.1)),(dI z6.2.2)])) (od:= [(184,⟨1,some (aH z6.1)⟩),(185,⟨1,some (aJ z6.1)⟩),(186,⟨1,some (aN z6.1)⟩)]) (by kernel_rfl) (by kernel_rfl) (by kernel_rfl) (gR rfl (gR rfl mj)) (by kernel_rfl) (aqI (aV hd rfl) l9) (by kernel_rfl) (by kernel_rfl) (by kernel_rfl) (by kernel_rfl)) (zL 8 (zE (bg (dW hS hQ (ajO (by kernel_rfl) ((congrArg (fun s=>cN s 1 Xc.res) (by exact (by kernel_rfl:_=(⟨u0,(up h0 0 ⟨0,some (.box (GI (bf.mk (bh.mk ((bf.mk ({a2.Client with af:=z6.1}) a2.sent).Client.gF) ((bf.mk ({a2.Client with af:=z6.1}) a2.sent).Client.Cr) ((bf.mk ({a2.Client with af:=z6.1}) a2.sent).Client.Part) ((bf.mk ({a2.Client with af:=z6.1}) a2.sent).Client.dG) (aA.mk (bS.mk ((bf.mk ({a2.Client with af:=z6.1}) a2.sent).Client.af.aG.bR) ((bf.mk ({a2.Client with af:=z6.1}) a2.sent).Client.af.aG.bW) z6.1.aG.Cells) ((bf.mk ({a2.Client with af:=z6.1}) a2.sent).Client.af.Row) ((bf.mk ({a2.Client with af:=z6.1}) a2.sent).Client.af.cP) ((bf.mk ({a2.Client with af:=z6.1}) a2.sent).Client.af.eK) ((bf.mk ({a2.Client with af:=z6.1}) a2.sent).Client.af.ji) ((bf.mk ({a2.Client with af:=z6.1}) a2.sent).Client.af.cT) ((bf.mk ({a2.Client with af:=z6.1}) a2.sent).Client.af.bP) ((bf.mk ({a2.Client with af:=z6.1}) a2.sent).Client.af.eE) ((bf.mk ({a2.Client with af:=z6.1}) a2.sent).Client.af.eU) ((bf.mk ({a2.Client with af:=z6.1}) a2.sent).Client.af.bp) ((bf.mk ({a2.Client with af:=z6.1}) a2.sent).Client.af.cC) ((bf.mk ({a2.Client with af:=z6.1}) a2.sent).Client.af.aI) (bS.mk ((bf.mk ({a2.Client with af:=z6.1}) a2.sent).Client.af.aT.bR) ((bf.mk ({a2.Client with af:=z6.1}) a2.sent).Client.af.aT.bW) z6.1.aT.Cells) ((bf.mk ({a2.Client with af:=z6.1}) a2.sent).Client.af.gz) z6.1.bn) ((bf.mk ({a2.Client with af:=z6.1}) a2.sent).Client.Neg) ((bf.mk ({a2.Client with af:=z6.1}) a2.sent).Client.bN) ((bf.mk ({a2.Client with af:=z6.1}) a2.sent).Client.Vars) ((bf.mk ({a2.Client with af:=z6.1}) a2.sent).Client.Keys) ((bf.mk ({a2.Client with af:=z6.1}) a2.sent).Client.Mask) ((bf.mk ({a2.Client with af:=z6.1}) a2.sent).Client.gB) ((bf.mk ({a2.Client with af:=z6.1}) a2.sent).Client.kL)) ((bf.mk ({a2.Client with af:=z6.1}) a2.sent).sent)) (.d (.sl z6.1.aG.Cells.length (((aj.cells z6.1.aG.Cells).drop (0*aj.k)).take (z6.1.aG.Cells.length*aj.k)))) (.d (.sl z6.1.aT.Cells.length (((aj.cells z6.1.aT.Cells).drop (0*aj.k)).take (z6.1.aT.Cells.length*aj.k)))) (.d (.sl z6.1.bn.length (((bE.cells z6.1.bn).drop (0*bE.k)).take (z6.1.bn.length*bE.k)))) (.d (.sl ((bf.mk ({a2.Client with af:=z6.1}) a2.sent).Client.bN.Names).length (dN.cells ((bf.mk ({a2.Client with af:=z6.1}) a2.sent).Client.bN.Names)))) (.d (.sl ((bf.mk ({a2.Client with af:=z6.1}) a2.sent).Client.Vars).length (cY.cells ((bf.mk ({a2.Client with af:=z6.1}) a2.sent).Client.Vars))))))⟩)⟩:St)).trans (by simp only [cS.P3];kernel_rfl):dV Xc.fin _=U8 (bf.mk ({a2.Client with af:=z6.1}) a2.sent))).trans aqJ)))))))))
def f77(a1:S8)(a2:bf):Option (bf):=((eT a1 [13] [13,10]).bind fun z4=>((f106 [] z4).bind fun z5=>(IL a1 a2 z5.2.1)))
theorem awO{d:Nat}(hd:13≤d){a1:S8}{a2 r:bf}(hS:f77 a1 a2=some r):bZ ay aX d 77 [(pt 0),(.d (.str a1))] [(wK a2)]=some ((.bH []),[(wK r)]):=by
 refine cI hd (fun Q hQ=>?_) aoS
 unfold f77 at hS
 show ZR _ Q anN [] _
 replace hQ:FQ (aqK r) Q:=hQ
 exact zS (zL 1 (aq hS (fun z4 iZ hS=>zC 9 (tU (aV hd rfl) iZ) (aq hS (fun z5 jQ hS=>zC 10 (apN (aV hd rfl) jQ) (zL 7 (zK (Y4 hd hQ hS _ (by exact (by kernel_rfl:_=(⟨(up (up u0 5 (.d (.sl z5.2.1.length (((eI.cells z5.2.1).drop (0*eI.k)).take (z5.2.1.length*eI.k))))) 0 (pt 0)),(up h0 0 ⟨0,some (wK a2)⟩)⟩:St)).trans (by simp only [cS.P3];kernel_rfl))))))))))
/- (*farwriter/client.worker).typed -/
def Y5(r:bf×Int)(e:PX)(st:St):Prop:=aU c42 1 ((dI r.2),[(wK r.1)]) e st
def aia(a1:S8)(a2:Int)(a3 p8:bf):St:=⟨(up (up u0 7 (.d (.str a1))) 0 (pt 0)),(up h0 0 ⟨0,some (wK p8)⟩)⟩
def E2(a1:S8)(a2:Int)(a3 p8:bf):Option (bf×Int):=((f76 p8 [] 1).bind fun z7=>(bif (!z7) then ((f77 a1 p8).bind fun z8=>(some (z8,0))) else (some (p8,0))))
theorem Lq(hd:14≤d){a1:S8}{a2:Int}{a3:bf}{r:bf×Int}(hQ:FQ (Y5 r) Q){p8:bf}(hS:E2 a1 a2 a3 p8=some r): ∀st,au [0,7] [(0,.id 0)] [] st=aia a1 a2 a3 p8→ZX d Q anO [] st:=by
 intro st he
 refine av he ?_
 unfold E2 at hS
 refine aC (zS (zL 1 (aq hS (fun z7 kO hS=>zC 73 (av8 (aV hd rfl) kO) (zL 1 (zK (sR 74 hS (fun hS=>?_) (fun hS=>?_))))))))
 ·exact zT (a_ (zL 2 (aq hS (fun z8 iW hS=>fW 77 [0] (awO (aV hd rfl) iW) (nL hS hQ)))))
 ·exact nR hS hQ
def aib(a1:S8)(a2:Int)(a3:bf):St:=⟨(up (up u0 1 (.d (.str a1))) 0 (pt 0)),(up h0 0 ⟨0,some (wK a3)⟩)⟩
def IM(a1:S8)(a2:Int)(a3:bf):Option (bf×Int):=(bif a3.Client.kL then ((f46 a3 [] 34).bind fun dh=>(bif dh then none else ((f44 a1 a3).bind fun cM=>(E2 a1 a2 a3 cM)))) else ((f44 a1 a3).bind fun z12=>(E2 a1 a2 a3 z12)))
theorem Y6(hd:14≤d){a1:S8}{a2:Int}{a3:bf}{r:bf×Int}(hQ:FQ (Y5 r) Q)(hS:IM a1 a2 a3=some r): ∀st,au [0,1] [(0,.id 0)] [] st=aib a1 a2 a3→ZX d Q anP [] st:=by
 intro st he
 refine av he ?_
 unfold IM at hS
 refine zS (zL 2 (zK (aC (zS (zL 6 (sL 23 hS (fun hS=>?_) (fun hS=>?_)))))))
 ·refine zL 1 (aq hS (fun dh iT hS=>zG (some 25) 23 true (.call 46 [(tm 24),(ki 34)]) (b_ (ad_ (aV hd rfl) iT)) (zL 1 (zK (sR 26 hS (fun hS=>?_) (fun hS=>?_))))))
  ·refine zT (aC (cG (cy 16 ?_)))
   cases hS
  ·exact zF (a_ (zL 2 (aq hS (fun cM jN hS=>fW 71 [0] (Re (aV hd rfl) jN) (zK (Lq hd hQ hS _ (by kernel_rfl)))))))
 ·exact zL 3 (zK (zF (a_ (zL 2 (aq hS (fun z12 gG hS=>fW 71 [0] (Re (aV hd rfl) gG) (jL (Lq hd hQ hS))))))))
def f42(a1:S8)(a2:Int)(a3:bf):Option (bf×Int):=(bif (!decide (a2=0)) then (some (a3,a2)) else (IM a1 a2 a3))
theorem awP{d:Nat}(hd:14≤d){a1:S8}{a2:Int}{a3:bf}{r:bf×Int}(hS:f42 a1 a2 a3=some r):bZ ay aX d 42 [(pt 0),(.d (.str a1)),(dI a2)] [(wK a3)]=some ((dI r.2),[(wK r.1)]):=by
 refine cI hd (fun Q hQ=>?_) aov
 unfold f42 at hS
 show ZR _ Q anQ [] _
 replace hQ:FQ (Y5 r) Q:=hQ
 refine zS (zL 1 (zK (aC (zS (zL 1 (sB 15 hS (fun hS=>?_) (fun hS=>?_)))))))
 ·exact nL hS hQ
 ·exact jL (Y6 hd hQ hS)
/- farwriter/press.Mouse -/
def Hl(r:S8×Int)(e:PX)(st:St):Prop:=aU c9 0 ((.bH [(.d (.str r.1)),(dI r.2)]),[]) e st
def aqL(a1:eN)(a2 Ur:Int)(CS:S8):St:=⟨(up (up (up u0 9 (.d (.str CS))) 8 (dI Ur)) 2 (pt 24)),(J6 a1)⟩
def Rl(a1:eN)(a2 Ur:Int)(CS:S8):Option (S8×Int):=((dD Ur).bind fun dh=>((ep ([27,91,60]:S8) dh).bind fun cM=>((ep cM ([59]:S8)).bind fun z12=>((dD (IntKind.i64.wrap (a1.cP+1))).bind fun dX=>((ep z12 dX).bind fun dR=>((ep dR ([59]:S8)).bind fun eZ=>((dD (IntKind.i64.wrap (a1.Row+1))).bind fun dx=>((ep eZ dx).bind fun f_=>((ep f_ CS).bind fun gb=>(some (gb,0)))))))))))
theorem OX(hd:1≤d){a1:eN}{a2:Int}{r:S8×Int}(hQ:FQ (Hl r) Q){Ur:Int}{CS:S8}(hS:Rl a1 a2 Ur CS=some r): ∀st,au [2,8,9] [(24,.id 24)] [] st=aqL a1 a2 Ur CS→ZX d Q ayl [] st:=by
 intro st he
 refine av he ?_
 unfold Rl at hS
 exact aC (cG (cy 1 (aq hS (fun dh iT hS=>di (some 119) none (c1 31 118) (b_ (lp (aV hd rfl) iT)) (aq hS (fun cM jN hS=>di (v:=(.d (.str cM))) (aD:= []) (some 120) none (.jJ .add (.const (.string ⟨#[27,91,60]⟩)) (tm 119)) (gP (a:= [27,91,60]) (c:=dh) (by kernel_rfl) (by kernel_rfl) jN) (aq hS (fun z12 gG hS=>di (v:=(.d (.str z12))) (aD:= []) (some 121) none (.jJ .add (tm 120) (.const (.string ⟨#[59]⟩))) (gP (a:=cM) (c:= [59]) (by kernel_rfl) (by kernel_rfl) gG) (cy 3 (aq hS (fun dX iU hS=>di (some 125) none (c1 31 124) (b_ (lp (aV hd rfl) iU)) (aq hS (fun dR kz hS=>di (v:=(.d (.str dR))) (aD:= []) (some 126) none (.jJ .add (tm 121) (tm 125)) (gP (a:=z12) (c:=dX) (by kernel_rfl) (by kernel_rfl) kz) (aq hS (fun eZ lG hS=>di (v:=(.d (.str eZ))) (aD:= []) (some 127) none (.jJ .add (tm 126) (.const (.string ⟨#[59]⟩))) (gP (a:=dR) (c:= [59]) (by kernel_rfl) (by kernel_rfl) lG) (cy 3 (aq hS (fun dx ju hS=>di (some 131) none (c1 31 130) (b_ (lp (aV hd rfl) ju)) (aq hS (fun f_ lH hS=>di (v:=(.d (.str f_))) (aD:= []) (some 132) none (.jJ .add (tm 127) (tm 131)) (gP (a:=eZ) (c:=dx) (by kernel_rfl) (by kernel_rfl) lH) (cy 1 (aq hS (fun gb nN hS=>di (v:=(.d (.str gb))) (aD:= []) (some 134) none (.jJ .add (tm 132) (tm 133)) (gP (a:=f_) (c:=CS) (by kernel_rfl) (by kernel_rfl) nN) (cy 2 (fG (nK hS hQ))))))))))))))))))))))))))
def aqM(a1:eN)(a2 Y7:Int):St:=⟨(up (up u0 8 (dI Y7)) 2 (pt 24)),(J6 a1)⟩
def Y8(a1:eN)(a2 Y7:Int):Option (S8×Int):=(bif a1.Up then (Rl a1 a2 Y7 [109]) else (Rl a1 a2 Y7 [77]))
theorem aic(hd:1≤d){a1:eN}{a2:Int}{r:S8×Int}(hQ:FQ (Hl r) Q){Y7:Int}(hS:Y8 a1 a2 Y7=some r): ∀st,au [2,8] [(24,.id 24)] [] st=aqM a1 a2 Y7→ZX d Q aym [] st:=by
 intro st he
 refine av he ?_
 unfold Y8 at hS
 refine zS (zL 1 (zK (aC (zS (zL 2 (zK (sR 117 hS (fun hS=>?_) (fun hS=>?_))))))))
 ·exact zT (a_ (zL 1 (zK (OX hd hQ hS _ (by kernel_rfl)))))
 ·exact jR (OX hd hQ hS)
def aqN(a1:eN)(a2:Int)(p91:Bool)(Gd:Int):St:=⟨(up (up (up u0 8 (dI Gd)) 7 (dB p91)) 2 (pt 24)),(J6 a1)⟩
def Lr(a1:eN)(a2:Int)(p91:Bool)(Gd:Int):Option (S8×Int):=(bif (!p91) then (some (([27,91,77,(u8 (IntKind.i64.wrap ((IntKind.i64.wrap (Gd+(IntKind.i64.wrap (4*a1.eV))))+32))),(u8 (IntKind.i64.wrap (a1.cP+33))),(u8 (IntKind.i64.wrap (a1.Row+33)))]:S8),0)) else (Y8 a1 a2 (IntKind.i64.wrap (Gd+(IntKind.i64.wrap (4*a1.eV))))))
theorem Ge(hd:1≤d){a1:eN}{a2:Int}{r:S8×Int}(hQ:FQ (Hl r) Q){p91:Bool}{Gd:Int}(hS:Lr a1 a2 p91 Gd=some r): ∀st,au [2,7,8] [(24,.id 24)] [] st=aqN a1 a2 p91 Gd→ZX d Q ayn [] st:=by
 intro st he
 refine av he ?_
 unfold Lr at hS
 refine zS (zL 6 (zK (aC (zS (zL 2 (zK (sR 102 hS (fun hS=>?_) (fun hS=>?_))))))))
 ·exact zT (zS (zL 2 (zO (v:=(.d (.int .u8 ((u8 (IntKind.i64.wrap ((IntKind.i64.wrap (Gd+(IntKind.i64.wrap (4*a1.eV))))+32))).toNat:Int)))) (aD:= []) (some 105) (.kF .u8 (tm 104)) (gJ (kk:= .i64) (a:=(IntKind.i64.wrap ((IntKind.i64.wrap (Gd+(IntKind.i64.wrap (4*a1.eV))))+32))) (by kernel_rfl) (iu _)) (zL 3 (zO (v:=(.d (.int .u8 ((u8 (IntKind.i64.wrap (a1.cP+33))).toNat:Int)))) (aD:= []) (some 109) (.kF .u8 (tm 108)) (gJ (kk:= .i64) (a:=(IntKind.i64.wrap (a1.cP+33))) (by kernel_rfl) (iu _)) (zL 3 (zO (v:=(.d (.int .u8 ((u8 (IntKind.i64.wrap (a1.Row+33))).toNat:Int)))) (aD:= []) (some 113) (.kF .u8 (tm 112)) (gJ (kk:= .i64) (a:=(IntKind.i64.wrap (a1.Row+33))) (by kernel_rfl) (iu _)) (zL 1 (zO (v:=(.d (.str ([27,91,77,(u8 (IntKind.i64.wrap ((IntKind.i64.wrap (Gd+(IntKind.i64.wrap (4*a1.eV))))+32))),(u8 (IntKind.i64.wrap (a1.cP+33))),(u8 (IntKind.i64.wrap (a1.Row+33)))]:S8)))) (aD:= []) (some 115) (.tI (tm 114)) (DI (s:= [27,91,77,(u8 (IntKind.i64.wrap ((IntKind.i64.wrap (Gd+(IntKind.i64.wrap (4*a1.eV))))+32))),(u8 (IntKind.i64.wrap (a1.cP+33))),(u8 (IntKind.i64.wrap (a1.Row+33)))]) ((congrArg (fP _) (by kernel_rfl:b8 _ (.tmp 114)=(.r (.aL 920 1 0 (([27,91,77,(u8 (IntKind.i64.wrap ((IntKind.i64.wrap (Gd+(IntKind.i64.wrap (4*a1.eV))))+32))),(u8 (IntKind.i64.wrap (a1.cP+33))),(u8 (IntKind.i64.wrap (a1.Row+33)))]:S8).length))))).trans (cZ cH (e:=5) (k:=1) (xs:= [27,91,77,(u8 (IntKind.i64.wrap ((IntKind.i64.wrap (Gd+(IntKind.i64.wrap (4*a1.eV))))+32))),(u8 (IntKind.i64.wrap (a1.cP+33))),(u8 (IntKind.i64.wrap (a1.Row+33)))]) (by kernel_rfl) rfl rfl)) rfl) (nL hS hQ))))))))))
 ·exact jR (aic hd hQ hS)
def aqO(a1:eN)(a2:Int)(y2:Bool):St:=⟨(up (up u0 7 (dB y2)) 2 (pt 24)),(J6 a1)⟩
def Rm(a1:eN)(a2:Int)(y2:Bool):Option (S8×Int):=(bif a1.Up then (bif (!y2) then (Lr a1 a2 y2 3) else (Lr a1 a2 y2 a1.pK)) else (Lr a1 a2 y2 a1.pK))
theorem OY(hd:1≤d){a1:eN}{a2:Int}{r:S8×Int}(hQ:FQ (Hl r) Q){y2:Bool}(hS:Rm a1 a2 y2=some r): ∀st,au [2,7] [(24,.id 24)] [] st=aqO a1 a2 y2→ZX d Q anR [] st:=by
 intro st he
 refine av he ?_
 unfold Rm at hS
 refine zS (zL 3 (zK (aC (zS (zL 3 (sL 92 hS (fun hS=>?_) (fun hS=>?_)))))))
 ·refine zL 3 (zK (sR 95 hS (fun hS=>?_) (fun hS=>?_)))
  ·exact zT (a_ (zL 1 (zK (Ge hd hQ hS _ (by kernel_rfl)))))
  ·exact jR (Ge hd hQ hS)
 ·exact jL (Ge hd hQ hS)
def aqP(a1:eN)(a2:Int)(Ho OZ:Bool):St:=⟨(up (up (up (up u0 21 (dB OZ)) 7 (dB Ho)) 2 (pt 24)) 1 (dI a2)),(J6 a1)⟩
def jI(a1:eN)(a2:Int)(Ho OZ:Bool):Option (S8×Int):=(bif OZ then (some ([],1)) else (bif (decide ((cQ .and .i64 a2 512)=0)) then (some ([],7)) else (bif (!Ho) then (bif (decide (94<a1.cP)) then (some ([],2)) else (bif (decide (94<a1.Row)) then (some ([],2)) else (Rm a1 a2 Ho))) else (Rm a1 a2 Ho))))
theorem fC(hd:1≤d){a1:eN}{a2:Int}{r:S8×Int}(hQ:FQ (Hl r) Q){Ho OZ:Bool}(hS:jI a1 a2 Ho OZ=some r): ∀st,au [1,2,7,21] [(24,.id 24)] [] st=aqP a1 a2 Ho OZ→ZX d Q ayk [.blk 0,.seq anR] st:=by
 intro st he
 refine av he ?_
 unfold jI at hS
 refine sR 21 hS (fun hS=>?_) (fun hS=>?_)
 ·exact nR hS hQ
 ·refine zF (zS (zL 2 (sB 74 hS (fun hS=>?_) (fun hS=>?_))))
  ·exact nL hS hQ
  ·refine zL 1 (zK (zF (zS (zL 3 (sL 78 hS (fun hS=>?_) (fun hS=>?_))))))
   ·refine zL 2 (sB 81 hS (fun hS=>?_) (fun hS=>?_))
    ·exact nL hS hQ
    ·refine zL 3 (sB 85 hS (fun hS=>?_) (fun hS=>?_))
     ·exact nL hS hQ
     ·exact jL (OY hd hQ hS)
   ·exact jL (OY hd hQ hS)
def aqQ(a1:eN)(a2:Int)(iG fe:Bool):St:=⟨(up (up (up (up u0 7 (dB fe)) 6 (dB iG)) 2 (pt 24)) 1 (dI a2)),(J6 a1)⟩
def Rn(a1:eN)(a2:Int)(iG fe:Bool):Option (S8×Int):=(bif (!iG) then (bif (decide (a1.pK<0)) then (jI a1 a2 fe true) else (bif (decide (2<a1.pK)) then (jI a1 a2 fe true) else (bif (decide (a1.cP<0)) then (jI a1 a2 fe true) else (bif (decide (1000<a1.cP)) then (jI a1 a2 fe true) else (bif (decide (a1.Row<0)) then (jI a1 a2 fe true) else (bif (decide (1000<a1.Row)) then (jI a1 a2 fe true) else (bif (decide (a1.eV<0)) then (jI a1 a2 fe true) else (bif (decide (7<a1.eV)) then (jI a1 a2 fe true) else (bif a1.Up then (jI a1 a2 fe iG) else (jI a1 a2 fe false)))))))))) else (bif (decide (a1.cP<0)) then (jI a1 a2 fe true) else (bif (decide (1000<a1.cP)) then (jI a1 a2 fe true) else (bif (decide (a1.Row<0)) then (jI a1 a2 fe true) else (bif (decide (1000<a1.Row)) then (jI a1 a2 fe true) else (bif (decide (a1.eV<0)) then (jI a1 a2 fe true) else (bif (decide (7<a1.eV)) then (jI a1 a2 fe true) else (bif a1.Up then (jI a1 a2 fe iG) else (jI a1 a2 fe false)))))))))
theorem O0(hd:1≤d){a1:eN}{a2:Int}{r:S8×Int}(hQ:FQ (Hl r) Q){iG fe:Bool}(hS:Rn a1 a2 iG fe=some r): ∀st,au [1,2,6,7] [(24,.id 24)] [] st=aqQ a1 a2 iG fe→ZX d Q ayo [] st:=by
 intro st he
 refine av he ?_
 unfold Rn at hS
 refine aC (bw (zS (zL 3 (sL 24 hS (fun hS=>?_) (fun hS=>?_)))))
 ·refine zL 2 (sB 27 hS (fun hS=>?_) (fun hS=>?_))
  ·exact zL 44 (zK (fC hd hQ hS _ (by kernel_rfl)))
  ·refine zL 3 (sB 31 hS (fun hS=>?_) (fun hS=>?_))
   ·exact zL 40 (zK (fC hd hQ hS _ (by kernel_rfl)))
   ·refine zL 5 (sB 37 hS (fun hS=>?_) (fun hS=>?_))
    ·exact zL 34 (zK (fC hd hQ hS _ (by kernel_rfl)))
    ·refine zL 4 (sB 42 hS (fun hS=>?_) (fun hS=>?_))
     ·exact zL 29 (zK (fC hd hQ hS _ (by kernel_rfl)))
     ·refine zL 4 (sB 47 hS (fun hS=>?_) (fun hS=>?_))
      ·exact zL 24 (zK (fC hd hQ hS _ (by kernel_rfl)))
      ·refine zL 4 (sB 52 hS (fun hS=>?_) (fun hS=>?_))
       ·exact zL 19 (zK (fC hd hQ hS _ (by kernel_rfl)))
       ·refine zL 4 (sB 57 hS (fun hS=>?_) (fun hS=>?_))
        ·exact zL 14 (zK (fC hd hQ hS _ (by kernel_rfl)))
        ·refine zL 4 (sB 62 hS (fun hS=>?_) (fun hS=>?_))
         ·exact zL 9 (zK (fC hd hQ hS _ (by kernel_rfl)))
         ·refine zL 5 (sL 67 hS (fun hS=>?_) (fun hS=>?_))
          ·exact zL 4 (zK (fC hd hQ hS _ (by kernel_rfl)))
          ·exact zL 4 (zK (fC hd hQ hS _ (by kernel_rfl)))
 ·refine zL 12 (sB 37 hS (fun hS=>?_) (fun hS=>?_))
  ·exact zL 34 (zK (fC hd hQ hS _ (by kernel_rfl)))
  ·refine zL 4 (sB 42 hS (fun hS=>?_) (fun hS=>?_))
   ·exact zL 29 (zK (fC hd hQ hS _ (by kernel_rfl)))
   ·refine zL 4 (sB 47 hS (fun hS=>?_) (fun hS=>?_))
    ·exact zL 24 (zK (fC hd hQ hS _ (by kernel_rfl)))
    ·refine zL 4 (sB 52 hS (fun hS=>?_) (fun hS=>?_))
     ·exact zL 19 (zK (fC hd hQ hS _ (by kernel_rfl)))
     ·refine zL 4 (sB 57 hS (fun hS=>?_) (fun hS=>?_))
      ·exact zL 14 (zK (fC hd hQ hS _ (by kernel_rfl)))
      ·refine zL 4 (sB 62 hS (fun hS=>?_) (fun hS=>?_))
       ·exact zL 9 (zK (fC hd hQ hS _ (by kernel_rfl)))
       ·refine zL 5 (sL 67 hS (fun hS=>?_) (fun hS=>?_))
        ·exact zL 4 (zK (fC hd hQ hS _ (by kernel_rfl)))
        ·exact jL (fC hd hQ hS)
def aqR(a1:eN)(a2:Int)(fS:Bool):St:=⟨(up (up (up u0 6 (dB fS)) 2 (pt 24)) 1 (dI a2)),(J6 a1)⟩
def Ls(a1:eN)(a2:Int)(fS:Bool):Option (S8×Int):=(bif (!decide ((cQ .and .i64 a2 1024)=0)) then (Rn a1 a2 fS true) else (Rn a1 a2 fS false))
theorem Gf(hd:1≤d){a1:eN}{a2:Int}{r:S8×Int}(hQ:FQ (Hl r) Q){fS:Bool}(hS:Ls a1 a2 fS=some r): ∀st,au [1,2,6] [(24,.id 24)] [] st=aqR a1 a2 fS→ZX d Q ayp [] st:=by
 intro st he
 refine av he ?_
 unfold Ls at hS
 refine zS (zL 2 (sB 20 hS (fun hS=>?_) (fun hS=>?_)))
 ·exact zL 1 (zK (O0 hd hQ hS _ (by kernel_rfl)))
 ·exact jL (O0 hd hQ hS)
def f9(a1:eN)(a2:Int):Option (S8×Int):=(bif (decide (a1.pK=64)) then (Ls a1 a2 true) else (bif (decide (a1.pK=65)) then (Ls a1 a2 true) else (Ls a1 a2 false)))
theorem aAY{d:Nat}(hd:1≤d){a1:eN}{a2:Int}{r:S8×Int}(hS:f9 a1 a2=some r):bZ ay aX d 9 [(.agg ((dI a1.pK)::((dI a1.cP)::((dI a1.Row)::((dI a1.eV)::((dB a1.Up):: [])))))),(dI a2)] []=some ((.bH [(.d (.str r.1)),(dI r.2)]),[]):=by
 refine cI hd (fun Q hQ=>?_) avF
 unfold f9 at hS
 show ZR _ Q ayq [] _
 replace hQ:FQ (Hl r) Q:=hQ
 refine zS (zL 3 (zK (zS (zL 2 (sB 12 hS (fun hS=>?_) (fun hS=>?_))))))
 ·exact zL 6 (zK (Gf hd hQ hS _ (by kernel_rfl)))
 ·refine zL 3 (sB 16 hS (fun hS=>?_) (fun hS=>?_))
  ·exact zL 2 (zK (Gf hd hQ hS _ (by kernel_rfl)))
  ·exact jL (Gf hd hQ hS)
end
end Go.Proofs.YtimbfadnabfabaaGreatDoor.Pm
