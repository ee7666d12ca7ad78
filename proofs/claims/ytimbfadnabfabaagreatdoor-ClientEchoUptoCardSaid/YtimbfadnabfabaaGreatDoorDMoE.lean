/- Typed functions, and that the codes are these. Printed by dec.py. -/
import Derived.Test.YtimbfadnabfabaaGreatDoorDMoD
namespace Go.Proofs.YtimbfadnabfabaaGreatDoor.Pm
noncomputable section
set_option maxRecDepth 1000000
set_option maxHeartbeats 20000000
set_option linter.unusedVariables false
set_option linter.unusedSimpArgs false
variable {d : Nat} {Q : PQ} {st : St}
/- farwriter/utf.longest -/
def ao5(r:Int×Bool)(e:PX)(st:St):Prop:=aU c53 0 ((.bH [(dI r.1),(dB r.2)]),[]) e st
def agW(a1:S8)(x:Int×UInt8×UInt8×Int):St:=⟨(up (up (up (up (up u0 7 (dI x.2.2.2)) 6 (.d (.int .u8 (x.2.2.1.toNat:Int)))) 5 (.d (.int .u8 (x.2.1.toNat:Int)))) 4 (dI x.1)) 0 (.d (.str a1))),h0⟩
def FW(a1:S8)(x:Int×UInt8×UInt8×Int)(st:St):Prop:=au [0,4,5,6,7] [] [] st=agW a1 x
def nO(a1:S8)(aDc aDd:Int):St:=⟨(up (up u0 7 (dI aDd)) 4 (dI aDc)),h0⟩
def N4(a1:S8)(z:(Int×Int))(e:PX)(st:St):Prop:=e= .exit 0∧st=nO a1 z.1 z.2
def tP(a1:S8)(x:Int×UInt8×UInt8×Int):Option ((Int×UInt8×UInt8×Int)⊕((Int×Int))):=(bif (decide (x.2.2.2≤x.1)) then (bif (decide (x.2.2.2<(a1.length:Int))) then ((idx a1 x.2.2.2).bind fun z21=>(bif (decide ((x.2.1.toNat:Int)≤(z21.toNat:Int))) then ((idx a1 x.2.2.2).bind fun z22=>(bif (decide ((z22.toNat:Int)≤(x.2.2.1.toNat:Int))) then (some (.inl (x.1,(128:UInt8),(191:UInt8),(IntKind.i64.wrap (x.2.2.2+1))))) else (some (.inr (x.1,x.2.2.2))))) else (some (.inr (x.1,x.2.2.2))))) else (some (.inr (x.1,x.2.2.2)))) else (some (.inr (x.1,x.2.2.2))))
theorem Xm(hd:2≤d){a1:S8}{r:(Int×UInt8×UInt8×Int)⊕((Int×Int))}(hQ:FQ (bG (FW a1) (N4 a1) r) Q){x:Int×UInt8×UInt8×Int}(hS:tP a1 x=some r)(he:FW a1 x st):ZX d Q akP [] st:=by
 refine av he ?_
 unfold tP at hS
 refine aC (zS (zL 2 (sB 19 hS (fun hS=>?_) (fun hS=>?_))))
 ·refine zL 4 (sB 24 hS (fun hS=>?_) (fun hS=>?_))
  ·refine zL 4 (aq hS (fun z21 p_ hS=>zG (v:=(.d (.int .u8 (z21.toNat:Int)))) (aD:= []) (some 29) 26 true (.iy (tm 27) (tm 28)) (fA (kk:= .i64) (s:=a1) (j:=x.2.2.2) (by kernel_rfl) (by kernel_rfl) p_) (zL 1 (sB 31 hS (fun hS=>?_) (fun hS=>?_)))))
   ·refine zL 4 (aq hS (fun z22 GJ hS=>zG (v:=(.d (.int .u8 (z22.toNat:Int)))) (aD:= []) (some 36) 33 true (.iy (tm 34) (tm 35)) (fA (kk:= .i64) (s:=a1) (j:=x.2.2.2) (by kernel_rfl) (by kernel_rfl) GJ) (zL 1 (sB 38 hS (fun hS=>?_) (fun hS=>?_)))))
    ·exact lL hS hQ
    ·exact zL 1 (zK (zF (av (J:=nO a1 x.1 x.2.2.2) (by kernel_rfl) (cX (cV (bg (jw hS hQ)))))))
   ·exact zL 8 (zK (zF (av (J:=nO a1 x.1 x.2.2.2) (by kernel_rfl) (cX (cV (bg (jw hS hQ)))))))
  ·exact zL 15 (zK (zF (av (J:=nO a1 x.1 x.2.2.2) (by kernel_rfl) (cX (cV (bg (jw hS hQ)))))))
 ·exact zL 20 (zK (zF (av (J:=nO a1 x.1 x.2.2.2) (by kernel_rfl) (cX (cV (bg (jw hS hQ)))))))
def agX(a1:S8)(CS:Int)(Xn Xo:UInt8):St:=⟨(up (up (up (up u0 6 (.d (.int .u8 (Xo.toNat:Int)))) 5 (.d (.int .u8 (Xn.toNat:Int)))) 4 (dI CS)) 0 (.d (.str a1))),h0⟩
def Ip(a1:S8)(CS:Int)(Xn Xo:UInt8):Option (Int×Bool):=((b9 (tP a1) (CS,Xn,Xo,1)).bind fun z23=>(bif (decide (z23.1<z23.2)) then (some (z23.2,true)) else (some (z23.2,false))))
theorem Xp(hd:2≤d){a1:S8}{r:Int×Bool}(hQ:FQ (ao5 r) Q){CS:Int}{Xn Xo:UInt8}(hS:Ip a1 CS Xn Xo=some r): ∀st,au [0,4,5,6] [] [] st=agX a1 CS Xn Xo→ZX d Q akQ [] st:=by
 intro st he
 refine av he ?_
 unfold Ip at hS
 refine zS (zL 1 (zK (aC (bw (aq hS (fun z23 y5 hS=>dF (FW a1) (N4 a1) (fun x st r Q h0 hS hQ=>Xm hd hQ hS h0) (x:=(CS,Xn,Xo,1)) (z:=z23) (by show au _ _ _ _=_;kernel_rfl) y5 ?_))))))
 intro e bl _ hX
 obtain ⟨rfl,rfl⟩:_∧_:=hX
 refine kq (cq (zS (zL 3 (sB 45 hS (fun hS=>?_) (fun hS=>?_)))))
 ·exact nL hS hQ
 ·exact nL hS hQ
def f53(a1:S8):Option (Int×Bool):=((idx a1 0).bind fun cM=>((f85 cM).bind fun z12=>(bif (decide (z12.1=0)) then (some (0,false)) else (Ip a1 z12.1 z12.2.1 z12.2.2))))
theorem adS{d:Nat}(hd:2≤d){a1:S8}{r:Int×Bool}(hS:f53 a1=some r):bZ ay aX d 53 [(.d (.str a1))] []=some ((.bH [(dI r.1),(dB r.2)]),[]):=by
 refine cI hd (fun Q hQ=>?_) aoB
 unfold f53 at hS
 show ZR _ Q akR [] _
 replace hQ:FQ (ao5 r) Q:=hQ
 refine zS (zL 2 (zK (zS (zL 1 (aq hS (fun cM jN hS=>zO (v:=(.d (.int .u8 (cM.toNat:Int)))) (aD:= []) (some 10) (.iy (tm 9) (ki 0)) (fA (kk:= .i64) (s:=a1) (j:=0) (by kernel_rfl) (by kernel_rfl) jN) (aq hS (fun z12 gG hS=>zC 11 (avM (aV hd rfl) gG) (zL 7 (zK (aC (zS (zL 1 (sB 16 hS (fun hS=>?_) (fun hS=>?_)))))))))))))))
 ·exact nL hS hQ
 ·exact jL (Xp hd hQ hS)
/- farwriter/utf.Check -/
def ao6(r:Int)(e:PX)(st:St):Prop:=aU c20 0 ((dI r),[]) e st
def agY(a1:S8):St:=⟨(up u0 0 (.d (.str a1))),h0⟩
def DZ(a1:S8):Option (Int):=((f53 a1).bind fun z2=>(bif z2.2 then (some 4) else (bif (!decide (z2.1=(a1.length:Int))) then (some 4) else (some 0))))
theorem Xq(hd:3≤d){a1:S8}{r:Int}(hQ:FQ (ao6 r) Q)(hS:DZ a1=some r): ∀st,au [0] [] [] st=agY a1→ZX d Q akS [] st:=by
 intro st he
 refine av he ?_
 unfold DZ at hS
 refine aC (zS (zL 1 (aq hS (fun z2 hz2 hS=>zC 9 (adS (aV hd rfl) hz2) (zL 5 (zK (zS (zL 2 (sL 13 hS (fun hS=>?_) (fun hS=>?_))))))))))
 ·exact nL hS hQ
 ·refine zL 3 (sB 17 hS (fun hS=>?_) (fun hS=>?_))
  ·exact nL hS hQ
  ·exact nL hS hQ
def f20(a1:S8):Option (Int):=(bif (decide (a1=([]:S8))) then (some 0) else (DZ a1))
theorem adT{d:Nat}(hd:3≤d){a1:S8}{r:Int}(hS:f20 a1=some r):bZ ay aX d 20 [(.d (.str a1))] []=some ((dI r),[]):=by
 refine cI hd (fun Q hQ=>?_) aod
 unfold f20 at hS
 show ZR _ Q akT [] _
 replace hQ:FQ (ao6 r) Q:=hQ
 refine zS (zL 1 (zK (aC (zS (zL 1 (sB 6 hS (fun hS=>?_) (fun hS=>?_)))))))
 ·exact nL hS hQ
 ·exact jL (Xq hd hQ hS)
/- strings.Trim -/
theorem Ty{d:Nat}(hd:0≤d){a1 a2 r:S8}(hS:sj a1 a2=some r):bZ ay aX d 86 [(.d (.str a1)),(.d (.str a2))] []=some ((.d (.str r)),[]):=oF (l:=libs) rfl rfl rfl (azW hS) d
/- strings.Split -/
theorem Qw{d:Nat}(hd:0≤d){a1 a2:S8}{r:List S8}(hS:mU a1 a2=some r):bZ ay aX d 87 [(.d (.str a1)),(.d (.str a2))] []=some ((dE dN r),[]):=oF (l:=libs) rfl rfl rfl (azY hS) d
/- farwriter/args.Read -/
def Tz(GK:List Int)(TA:Int):St:=⟨(up (up u0 3 (dI TA)) 2 (.r (.aL 569 0 0 GK.length))),(up h0 569 ⟨0,some (.own 3 1 (eI.cells GK))⟩)⟩
theorem Kk{GK:List Int}{TA:Int}:cN (Tz GK TA) 0 WQ.res=some ((.bH [(.r (.own 0 3 1 GK.length (eI.cells GK))),(dI TA)]),[]):=by
 exact iP (ids:= []) (ids':= [569]) (l:= [(.r (.aL 569 0 0 GK.length)),(dI TA)]) (by kernel_rfl) (by kernel_rfl) (CO (aO (g_ eI (e:=3) (k:=1) (xs:=GK) (by kernel_rfl) rfl rfl rfl rfl) (aO rfl nH)))
def Xr(r:(List Int)×Int)(e:PX)(st:St):Prop:=aU WQ 0 ((.bH [(.r (.own 0 3 1 r.1.length (eI.cells r.1))),(dI r.2)]),[]) e st
def agZ(a1:S8)(x:(List Int)×(List S8)×Int×Int):St:=⟨(up (up (up (up u0 38 (dI x.2.2.2)) 37 (dI x.2.2.1)) 36 (dE dN x.2.1)) 5 (.r (.aL 48 0 0 x.1.length))),(up h0 48 ⟨0,some (.own 3 1 (eI.cells x.1))⟩)⟩
def rE(a1:S8)(x:(List Int)×(List S8)×Int×Int)(st:St):Prop:=au [5,36,37,38] [(48,.id 48)] [] st=agZ a1 x
def wQ(a1:S8)(ayw:List Int):St:=⟨(up u0 5 (.r (.aL 48 0 0 ayw.length))),(up h0 48 ⟨0,some (.own 3 1 (eI.cells ayw))⟩)⟩
def uZ(a1:S8)(z:((List Int)))(e:PX)(st:St):Prop:=e= .exit 2∧st=wQ a1 z
def Qx(a1:S8)(x:(List Int)×S8×Int×(List S8)×Int×Int×Int×Int):St:=⟨(up (up (up (up (up (up (up (up u0 47 (dI x.2.2.2.2.2.2.2)) 46 (dI x.2.2.2.2.2.2.1)) 38 (dI x.2.2.2.2.2.1)) 37 (dI x.2.2.2.2.1)) 36 (dE dN x.2.2.2.1)) 8 (dI x.2.2.1)) 7 (.d (.str x.2.1))) 5 (.r (.aL 48 0 0 x.1.length))),(up h0 48 ⟨0,some (.own 3 1 (eI.cells x.1))⟩)⟩
def nP(a1:S8)(x:(List Int)×S8×Int×(List S8)×Int×Int×Int×Int)(st:St):Prop:=au [5,7,8,36,37,38,46,47] [(48,.id 48)] [] st=Qx a1 x
def x_(a1:S8)(ayx:List Int)(aDe:Int)(aDf:List S8)(aDg aDh:Int):St:=⟨(up (up (up (up (up u0 38 (dI aDh)) 37 (dI aDg)) 36 (dE dN aDf)) 8 (dI aDe)) 5 (.r (.aL 48 0 0 ayx.length))),(up h0 48 ⟨0,some (.own 3 1 (eI.cells ayx))⟩)⟩
def qX(a1:S8)(z:((List Int)×Int×(List S8)×Int×Int))(e:PX)(st:St):Prop:=e= .exit 4∧st=x_ a1 z.1 z.2.1 z.2.2.1 z.2.2.2.1 z.2.2.2.2
def HT(a1:S8)(Kl:List Int)(GL:S8)(D1:Int)(N5:List S8)(N6 N7:Int)(N8 GM:Int):St:=⟨(up (up (up (up (up (up (up (up u0 47 (dI GM)) 46 (dI N8)) 38 (dI N7)) 37 (dI N6)) 36 (dE dN N5)) 8 (dI D1)) 7 (.d (.str GL))) 5 (.r (.aL 48 0 0 Kl.length))),(up h0 48 ⟨0,some (.own 3 1 (eI.cells Kl))⟩)⟩
def pM(a1:S8)(Kl:List Int)(GL:S8)(D1:Int)(N5:List S8)(N6 N7:Int)(N8 GM:Int):Option (((List Int)×S8×Int×(List S8)×Int×Int×Int×Int)⊕(((List Int)×Int×(List S8)×Int×Int))):=((idx GL GM).bind fun y7=>(some (.inl (Kl,GL,(if 16383<(IntKind.i64.wrap ((IntKind.i64.wrap ((if 0>D1 then 0 else D1)*10))+((y7-(48:UInt8)).toNat:Int))) then 16383 else (IntKind.i64.wrap ((IntKind.i64.wrap ((if 0>D1 then 0 else D1)*10))+((y7-(48:UInt8)).toNat:Int)))),N5,N6,N7,N8,(IntKind.i64.wrap (GM+1))))))
theorem FX(hd:1≤d){a1:S8}{r:((List Int)×S8×Int×(List S8)×Int×Int×Int×Int)⊕(((List Int)×Int×(List S8)×Int×Int))}(hQ:FQ (bG (nP a1) (qX a1) r) Q){Kl:List Int}{GL:S8}{D1:Int}{N5:List S8}{N6 N7:Int}{N8 GM:Int}(hS:pM a1 Kl GL D1 N5 N6 N7 N8 GM=some r): ∀st,au [5,7,8,36,37,38,46,47] [(48,.id 48)] [] st=HT a1 Kl GL D1 N5 N6 N7 N8 GM→ZX d Q akU [] st:=by
 intro st he
 refine av he ?_
 unfold pM at hS
 exact aC (bw (zS (zL 2 (zK (a_ (zL 5 (aq hS (fun y7 GN hS=>zO (v:=(.d (.int .u8 (y7.toNat:Int)))) (aD:= []) (some 55) (.iy (tm 53) (tm 54)) (fA (kk:= .i64) (s:=GL) (j:=GM) (by kernel_rfl) (by kernel_rfl) GN) (zO (v:=(.d (.int .u8 ((y7-(48:UInt8)).toNat:Int)))) (aD:= []) (some 56) (.rL .sub (tm 55) (.const (.int .u8 48))) (jf (kk:= .u8) (a:=(y7.toNat:Int)) (c:=((48:UInt8).toNat:Int)) (by kernel_rfl) (by kernel_rfl) (SV y7 (48:UInt8))) (zO (v:=(dI ((y7-(48:UInt8)).toNat:Int))) (aD:= []) (some 57) (.kF .i64 (tm 56)) (gJ (kk:= .u8) (a:=((y7-(48:UInt8)).toNat:Int)) (by kernel_rfl) (qW _)) (lL hS hQ)))))))))))
def HV(a1:S8)(D2:List Int)(N9:S8)(GP:Int)(GQ:List S8)(GR GS:Int)(N_ Oa:Int)(Ob:Bool):St:=⟨(up (up (up (up (up (up (up (up (up u0 48 (dB Ob)) 47 (dI Oa)) 46 (dI N_)) 38 (dI GS)) 37 (dI GR)) 36 (dE dN GQ)) 8 (dI GP)) 7 (.d (.str N9))) 5 (.r (.aL 48 0 0 D2.length))),(up h0 48 ⟨0,some (.own 3 1 (eI.cells D2))⟩)⟩
def j9(a1:S8)(D2:List Int)(N9:S8)(GP:Int)(GQ:List S8)(GR GS:Int)(N_ Oa:Int)(Ob:Bool):Option (((List Int)×S8×Int×(List S8)×Int×Int×Int×Int)⊕(((List Int)×Int×(List S8)×Int×Int))):=(bif Ob then (pM a1 D2 N9 GP GQ GR GS N_ Oa) else (some (.inr (D2,GP,GQ,GR,GS))))
theorem u5(hd:1≤d){a1:S8}{r:((List Int)×S8×Int×(List S8)×Int×Int×Int×Int)⊕(((List Int)×Int×(List S8)×Int×Int))}(hQ:FQ (bG (nP a1) (qX a1) r) Q){D2:List Int}{N9:S8}{GP:Int}{GQ:List S8}{GR GS:Int}{N_ Oa:Int}{Ob:Bool}(hS:j9 a1 D2 N9 GP GQ GR GS N_ Oa Ob=some r): ∀st,au [5,7,8,36,37,38,46,47,48] [(48,.id 48)] [] st=HV a1 D2 N9 GP GQ GR GS N_ Oa Ob→ZX d Q akV [] st:=by
 intro st he
 refine av he ?_
 unfold j9 at hS
 refine aC (sR 48 hS (fun hS=>?_) (fun hS=>?_))
 ·exact jR (FX hd hQ hS)
 ·exact zF (av (J:=x_ a1 D2 GP GQ GR GS) (by kernel_rfl) (cX (cV (bg (jw hS hQ)))))
def oU(a1:S8)(x:(List Int)×S8×Int×(List S8)×Int×Int×Int×Int):Option (((List Int)×S8×Int×(List S8)×Int×Int×Int×Int)⊕(((List Int)×Int×(List S8)×Int×Int))):=(bif (decide (x.2.2.2.2.2.2.2<x.2.2.2.2.2.2.1)) then (j9 a1 x.1 x.2.1 x.2.2.1 x.2.2.2.1 x.2.2.2.2.1 x.2.2.2.2.2.1 x.2.2.2.2.2.2.1 x.2.2.2.2.2.2.2 true) else (j9 a1 x.1 x.2.1 x.2.2.1 x.2.2.2.1 x.2.2.2.2.1 x.2.2.2.2.2.1 x.2.2.2.2.2.2.1 x.2.2.2.2.2.2.2 false))
theorem Mi(hd:1≤d){a1:S8}{r:((List Int)×S8×Int×(List S8)×Int×Int×Int×Int)⊕(((List Int)×Int×(List S8)×Int×Int))}(hQ:FQ (bG (nP a1) (qX a1) r) Q){x:(List Int)×S8×Int×(List S8)×Int×Int×Int×Int}(hS:oU a1 x=some r)(he:nP a1 x st):ZX d Q akW [] st:=by
 refine av he ?_
 unfold oU at hS
 refine zS (sB 48 hS (fun hS=>?_) (fun hS=>?_))
 ·exact zK (u5 hd hQ hS _ (by kernel_rfl))
 ·exact jL (u5 hd hQ hS)
def Qy(a1:S8)(GU:List Int)(D3:S8)(Km:List S8)(Kn Ko:Int):St:=⟨(up (up (up (up (up u0 38 (dI Ko)) 37 (dI Kn)) 36 (dE dN Km)) 7 (.d (.str D3))) 5 (.r (.aL 48 0 0 GU.length))),(up h0 48 ⟨0,some (.own 3 1 (eI.cells GU))⟩)⟩
def wR(a1:S8)(GU:List Int)(D3:S8)(Km:List S8)(Kn Ko:Int):Option (((List Int)×(List S8)×Int×Int)⊕(((List Int)))):=((b9 (oU a1) (GU,D3,(-1),Km,Kn,Ko,(D3.length:Int),0)).bind fun z49=>((eP 8 z49.1 ([z49.2.1]:List Int)).bind fun qY=>(some (.inl (qY,z49.2.2.1,z49.2.2.2.1,(IntKind.i64.wrap (z49.2.2.2.2+1)))))))
theorem Mj(hd:1≤d){a1:S8}{r:((List Int)×(List S8)×Int×Int)⊕(((List Int)))}(hQ:FQ (bG (rE a1) (uZ a1) r) Q){GU:List Int}{D3:S8}{Km:List S8}{Kn Ko:Int}(hS:wR a1 GU D3 Km Kn Ko=some r): ∀st,au [5,7,36,37,38] [(48,.id 48)] [] st=Qy a1 GU D3 Km Kn Ko→ZX d Q akX [.blk 3,.seq akY] st:=by
 intro st he
 refine av he ?_
 unfold wR at hS
 refine zS (zL 1 (zK (aC (zS (zL 3 (zK (bw (aq hS (fun z49 TB hS=>dF (nP a1) (qX a1) (fun x st r Q h0 hS hQ=>Mi hd hQ hS h0) (x:=(GU,D3,(-1),Km,Kn,Ko,(D3.length:Int),0)) (z:=z49) (by show au _ _ _ _=_;kernel_rfl) TB ?_)))))))))
 intro e bl _ hX
 obtain ⟨rfl,rfl⟩:_∧_:=hX
 exact kq (cq (a_ (zL 3 (aq hS (fun qY Oc hS=>zO (v:=(.r (.aL 48 1 0 qY.length))) (aD:= [(48,⟨1,some (.own 3 1 (eI.cells qY))⟩)]) (some 64) (.app 3 1 8 (tm 61) (tm 63)) (eM eI (b:=48) (g:=0) (n:=z49.1.length) (xs:=z49.1) (ys:= [z49.2.1]) ((congrArg (fP _) (by kernel_rfl:b8 _ (.tmp 63)=(.r (.aL 512 1 0 (([z49.2.1]:List Int).length))))).trans (cZ eI (e:=3) (k:=1) (xs:= [z49.2.1]) (by kernel_rfl) rfl rfl)) rfl (by kernel_rfl) rfl (by kernel_rfl) rfl Oc) (lL hS hQ))))))
def Qz(a1:S8)(BN:List Int)(D4:List S8)(Od D6:Int):St:=⟨(up (up (up (up u0 38 (dI D6)) 37 (dI Od)) 36 (dE dN D4)) 5 (.r (.aL 48 0 0 BN.length))),(up h0 48 ⟨0,some (.own 3 1 (eI.cells BN))⟩)⟩
def sA(a1:S8)(BN:List Int)(D4:List S8)(Od D6:Int):Option (((List Int)×(List S8)×Int×Int)⊕(((List Int)))):=((idx D4 D6).bind fun z44=>(bif (decide ((BN.length:Int)=32)) then (some (.inr BN)) else (wR a1 BN z44 D4 Od D6)))
theorem Mk(hd:1≤d){a1:S8}{r:((List Int)×(List S8)×Int×Int)⊕(((List Int)))}(hQ:FQ (bG (rE a1) (uZ a1) r) Q){BN:List Int}{D4:List S8}{Od D6:Int}(hS:sA a1 BN D4 Od D6=some r): ∀st,au [5,36,37,38] [(48,.id 48)] [] st=Qz a1 BN D4 Od D6→ZX d Q akZ [] st:=by
 intro st he
 refine av he ?_
 unfold sA at hS
 refine aC (bw (zS (aq hS (fun z44 Kp hS=>zO (v:=(.cD (dN.enc z44++(dN.cells (D4.drop ((D6:Int).toNat+1)))))) (aD:= []) (some 40) (.jc 9 1 (tm 36) (tm 38)) (eY dN (kk:= .i64) (xs:=D4) (j:=D6) (by kernel_rfl) (by kernel_rfl) Kp rfl (by intro h;cases h)) (zL 2 (zK (aC (zS (zL 2 (sB 44 hS (fun hS=>?_) (fun hS=>?_)))))))))))
 ·exact zK (zT (av (J:=wQ a1 BN) (by kernel_rfl) (cX (cV (Z8 rfl (cV (bg (jw hS hQ))))))))
 ·exact jL (Mj hd hQ hS)
def QA(a1:S8)(D7:List Int)(Oe:List S8)(Og Oh:Int)(Oi:Bool):St:=⟨(up (up (up (up (up u0 39 (dB Oi)) 38 (dI Oh)) 37 (dI Og)) 36 (dE dN Oe)) 5 (.r (.aL 48 0 0 D7.length))),(up h0 48 ⟨0,some (.own 3 1 (eI.cells D7))⟩)⟩
def mJ(a1:S8)(D7:List Int)(Oe:List S8)(Og Oh:Int)(Oi:Bool):Option (((List Int)×(List S8)×Int×Int)⊕(((List Int)))):=(bif Oi then (sA a1 D7 Oe Og Oh) else (some (.inr D7)))
theorem BO(hd:1≤d){a1:S8}{r:((List Int)×(List S8)×Int×Int)⊕(((List Int)))}(hQ:FQ (bG (rE a1) (uZ a1) r) Q){D7:List Int}{Oe:List S8}{Og Oh:Int}{Oi:Bool}(hS:mJ a1 D7 Oe Og Oh Oi=some r): ∀st,au [5,36,37,38,39] [(48,.id 48)] [] st=QA a1 D7 Oe Og Oh Oi→ZX d Q ak0 [] st:=by
 intro st he
 refine av he ?_
 unfold mJ at hS
 refine aC (sR 39 hS (fun hS=>?_) (fun hS=>?_))
 ·exact jR (Mk hd hQ hS)
 ·exact zF (av (J:=wQ a1 D7) (by kernel_rfl) (cX (cV (bg (jw hS hQ)))))
def wS(a1:S8)(x:(List Int)×(List S8)×Int×Int):Option (((List Int)×(List S8)×Int×Int)⊕(((List Int)))):=(bif (decide (x.2.2.2<x.2.2.1)) then (mJ a1 x.1 x.2.1 x.2.2.1 x.2.2.2 true) else (mJ a1 x.1 x.2.1 x.2.2.1 x.2.2.2 false))
theorem Xs(hd:1≤d){a1:S8}{r:((List Int)×(List S8)×Int×Int)⊕(((List Int)))}(hQ:FQ (bG (rE a1) (uZ a1) r) Q){x:(List Int)×(List S8)×Int×Int}(hS:wS a1 x=some r)(he:rE a1 x st):ZX d Q ak1 [] st:=by
 refine av he ?_
 unfold wS at hS
 refine zS (sB 39 hS (fun hS=>?_) (fun hS=>?_))
 ·exact zK (BO hd hQ hS _ (by kernel_rfl))
 ·exact jL (BO hd hQ hS)
def ag0(a1:S8):St:=⟨(up u0 0 (.d (.str a1))),h0⟩
def Iq(a1:S8):Option ((List Int)×Int):=((mU a1 [59]).bind fun z28=>((b9 (wS a1) ([],z28,(z28.length:Int),0)).bind fun z51=>(some (z51,0))))
theorem Xt(hd:1≤d){a1:S8}{r:(List Int)×Int}(hQ:FQ (Xr r) Q)(hS:Iq a1=some r): ∀st,au [0] [] [] st=ag0 a1→ZX d Q ak2 [] st:=by
 intro st he
 refine av he ?_
 unfold Iq at hS
 refine zS (zL 1 (zK (aC (zS (zL 1 (aq hS (fun z28 TC hS=>zC 36 (Qw (aV hd rfl) TC) (zL 2 (zK (bw (aq hS (fun z51 TD hS=>dF (rE a1) (uZ a1) (fun x st r Q h0 hS hQ=>Xs hd hQ hS h0) (x:=([],z28,(z28.length:Int),0)) (z:=z51) (by show au _ _ _ _=_;kernel_rfl) TD ?_))))))))))))
 intro e bl _ hX
 obtain ⟨rfl,rfl⟩:_∧_:=hX
 exact kq (cq (zS (zL 3 (zK (cL (bg (dW hS hQ (fR Kk))))))))
def ag1(a1:S8)(x:Int):St:=⟨(up (up (up u0 15 (dI x)) 14 (dI (a1.length:Int))) 0 (.d (.str a1))),h0⟩
def u6(a1:S8)(x:Int)(st:St):Prop:=au [0,14,15] [] [] st=ag1 a1 x
def D8(a1:S8):St:=⟨(up u0 0 (.d (.str a1))),h0⟩
def AD(a1:S8)(z:Unit⊕((List Int)×Int))(e:PX)(st:St):Prop:=(match z with | .inl z=>e= .exit 0∧st=D8 a1 | .inr z=>e= .ret∧dV WQ.fin st=Tz z.1 z.2)
def Ml(a1:S8)(u7:Int):St:=⟨(up (up (up u0 15 (dI u7)) 14 (dI (a1.length:Int))) 0 (.d (.str a1))),h0⟩
def qa(a1:S8)(u7:Int):Option (Int⊕(Unit⊕((List Int)×Int))):=((idx a1 u7).bind fun Mm=>(bif (!decide ((Mm.toNat:Int)=59)) then ((idx a1 u7).bind fun z53=>(bif (decide ((z53.toNat:Int)<48)) then (some (.inr (.inr ([],4)))) else ((idx a1 u7).bind fun FY=>(bif (decide (57<(FY.toNat:Int))) then (some (.inr (.inr ([],4)))) else (some (.inl (IntKind.i64.wrap (u7+1)))))))) else (some (.inl (IntKind.i64.wrap (u7+1))))))
theorem Kq(hd:1≤d){a1:S8}{r:Int⊕(Unit⊕((List Int)×Int))}(hQ:FQ (bG (u6 a1) (AD a1) r) Q){u7:Int}(hS:qa a1 u7=some r): ∀st,au [0,14,15] [] [] st=Ml a1 u7→ZX d Q aak [] st:=by
 intro st he
 refine av he ?_
 unfold qa at hS
 refine aC (bw (zS (zL 2 (zK (zS (zL 2 (aq hS (fun Mm TE hS=>zO (v:=(.d (.int .u8 (Mm.toNat:Int)))) (aD:= []) (some 20) (.iy (tm 18) (tm 19)) (fA (kk:= .i64) (s:=a1) (j:=u7) (by kernel_rfl) (by kernel_rfl) TE) (sB 21 hS (fun hS=>?_) (fun hS=>?_))))))))))
 ·refine zL 3 (aq hS (fun z53 TF hS=>zG (v:=(.d (.int .u8 (z53.toNat:Int)))) (aD:= []) (some 25) 22 true (.iy (tm 23) (tm 24)) (fA (kk:= .i64) (s:=a1) (j:=u7) (by kernel_rfl) (by kernel_rfl) TF) (sB 26 hS (fun hS=>?_) (fun hS=>?_))))
  ·exact zL 7 (zK (zT (zS (zL 2 (zK (cL (cj (bQ (bg (mG hS hQ))))))))))
  ·refine zL 3 (aq hS (fun FY Kr hS=>zG (v:=(.d (.int .u8 (FY.toNat:Int)))) (aD:= []) (some 30) 27 false (.iy (tm 28) (tm 29)) (fA (kk:= .i64) (s:=a1) (j:=u7) (by kernel_rfl) (by kernel_rfl) Kr) (sB 31 hS (fun hS=>?_) (fun hS=>?_))))
   ·exact zL 2 (zK (zT (zS (zL 2 (zK (cL (cj (bQ (bg (mG hS hQ))))))))))
   ·exact lL hS hQ
 ·exact lL hS hQ
def Mn(a1:S8)(Oj:Int)(Ok:Bool):St:=⟨(up (up (up (up u0 16 (dB Ok)) 15 (dI Oj)) 14 (dI (a1.length:Int))) 0 (.d (.str a1))),h0⟩
def kP(a1:S8)(Oj:Int)(Ok:Bool):Option (Int⊕(Unit⊕((List Int)×Int))):=(bif Ok then (qa a1 Oj) else (some (.inr (.inl ()))))
theorem y8(hd:1≤d){a1:S8}{r:Int⊕(Unit⊕((List Int)×Int))}(hQ:FQ (bG (u6 a1) (AD a1) r) Q){Oj:Int}{Ok:Bool}(hS:kP a1 Oj Ok=some r): ∀st,au [0,14,15,16] [] [] st=Mn a1 Oj Ok→ZX d Q aal [] st:=by
 intro st he
 refine av he ?_
 unfold kP at hS
 refine aC (sR 16 hS (fun hS=>?_) (fun hS=>?_))
 ·exact jR (Kq hd hQ hS)
 ·exact zF (av (J:=D8 a1) (by kernel_rfl) (cX (cV (bg (jw hS hQ)))))
def wT(a1:S8)(x:Int):Option (Int⊕(Unit⊕((List Int)×Int))):=(bif (decide (x<(a1.length:Int))) then (kP a1 x true) else (kP a1 x false))
theorem Xu(hd:1≤d){a1:S8}{r:Int⊕(Unit⊕((List Int)×Int))}(hQ:FQ (bG (u6 a1) (AD a1) r) Q){x:Int}(hS:wT a1 x=some r)(he:u6 a1 x st):ZX d Q aam [] st:=by
 refine av he ?_
 unfold wT at hS
 refine zS (sB 16 hS (fun hS=>?_) (fun hS=>?_))
 ·exact zK (y8 hd hQ hS _ (by kernel_rfl))
 ·exact jL (y8 hd hQ hS)
def ag2(a1:S8):St:=⟨(up u0 0 (.d (.str a1))),h0⟩
def D9(a1:S8):Option ((List Int)×Int):=((b9 (wT a1) 0).bind fun FZ=>(Sum.elim (fun z56=>(Iq a1)) (fun Xv=>(some (Xv.1,Xv.2))) FZ))
theorem Xw(hd:1≤d){a1:S8}{r:(List Int)×Int}(hQ:FQ (Xr r) Q)(hS:D9 a1=some r): ∀st,au [0] [] [] st=ag2 a1→ZX d Q aan [] st:=by
 intro st he
 refine av he ?_
 unfold D9 at hS
 refine aC (zS (zL 3 (zK (bw (aq hS (fun FZ adU hS=>dF (u6 a1) (AD a1) (fun x st r Q h0 hS hQ=>Xu hd hQ hS h0) (x:=0) (z:=FZ) (by show au _ _ _ _=_;kernel_rfl) adU ?_))))))
 rcases FZ with z56 | Xv
 ·replace hS:=(show _=_ from hS)
  simp only [tD] at hS
  intro e bl _ hX
  obtain ⟨rfl,rfl⟩:_∧_:=hX
  exact jK (Xt hd hQ hS)
 ·simp only [tE] at hS
  intro e bl _ hX
  obtain ⟨rfl,hX⟩:_∧_:=hX
  exact cj (bQ (bg (dW hS hQ (je (by kernel_rfl) ((congrArg (fun s=>cN s 0 WQ.res) hX).trans Kk)))))
def f54(a1:S8):Option ((List Int)×Int):=((sj a1 [48,49,50,51,52,53,54,55,56,57,59]).bind fun z58=>(bif (!decide (z58=([]:S8))) then (some ([],4)) else (D9 a1)))
theorem adW{d:Nat}(hd:1≤d){a1:S8}{r:(List Int)×Int}(hS:f54 a1=some r):bZ ay aX d 54 [(.d (.str a1))] []=some ((.bH [(.r (.own 0 3 1 r.1.length (eI.cells r.1))),(dI r.2)]),[]):=by
 refine cI hd (fun Q hQ=>?_) aoC
 unfold f54 at hS
 show ZR _ Q ak3 [] _
 replace hQ:FQ (Xr r) Q:=hQ
 refine zS (zL 2 (zK (aC (zS (zL 1 (aq hS (fun z58 ao8 hS=>zC 11 (Ty (aV hd rfl) ao8) (sB 12 hS (fun hS=>?_) (fun hS=>?_)))))))))
 ·exact zK (zT (zS (zL 2 (zK (cL (bQ (bg (dW hS hQ (fR Kk)))))))))
 ·exact jL (Xw hd hQ hS)
/- farwriter/parse.within -/
def aAq(r:Bool)(e:PX)(st:St):Prop:=aU c55 0 ((dB r),[]) e st
def f55(a1 a2 a3:Int):Option (Bool):=(bif (decide (a2≤a1)) then (bif (decide (a1≤a3)) then (some true) else (some false)) else (some false))
theorem D_{d:Nat}(hd:1≤d){a1 a2 a3:Int}{r:Bool}(hS:f55 a1 a2 a3=some r):bZ ay aX d 55 [(dI a1),(dI a2),(dI a3)] []=some ((dB r),[]):=by
 refine cI hd (fun Q hQ=>?_) aoD
 unfold f55 at hS
 show ZR _ Q ak4 [] _
 replace hQ:FQ (aAq r) Q:=hQ
 refine zS (zL 1 (zK (zS (zL 2 (sB 9 hS (fun hS=>?_) (fun hS=>?_))))))
 ·refine zL 3 (sB 13 hS (fun hS=>?_) (fun hS=>?_))
  ·exact nL hS hQ
  ·exact nL hS hQ
 ·exact nL hS hQ
/- farwriter/parse.inters -/
def TG(p9:Bool):St:=⟨(up u0 4 (dB p9)),h0⟩
theorem ao9{p9:Bool}:cN (TG p9) 0 WR.res=some ((dB p9),[]):=by
 kernel_rfl
def aAr(r:Bool)(e:PX)(st:St):Prop:=aU WR 0 ((dB r),[]) e st
def ag4(a1:S8)(a2 x:Int):St:=⟨(up (up (up (up u0 8 (dI x)) 7 (dI (a1.length:Int))) 1 (dI a2)) 0 (.d (.str a1))),h0⟩
def u9(a1:S8)(a2 x:Int)(st:St):Prop:=au [0,1,7,8] [] [] st=ag4 a1 a2 x
def Ea(a1:S8)(a2:Int):St:=⟨(up (up u0 1 (dI a2)) 0 (.d (.str a1))),h0⟩
def AE(a1:S8)(a2:Int)(z:Unit⊕Bool)(e:PX)(st:St):Prop:=(match z with | .inl z=>e= .exit 0∧st=Ea a1 a2 | .inr z=>e= .ret∧dV WR.fin st=TG z)
def QB(a1:S8)(a2 ig:Int):St:=⟨(up (up (up (up u0 8 (dI ig)) 7 (dI (a1.length:Int))) 1 (dI a2)) 0 (.d (.str a1))),h0⟩
def sD(a1:S8)(a2 ig:Int):Option (Int⊕(Unit⊕Bool)):=((idx a1 ig).bind fun z7=>((f55 (z7.toNat:Int) 32 47).bind fun z8=>(bif (!z8) then (some (.inr (.inr false))) else (some (.inl (IntKind.i64.wrap (ig+1)))))))
theorem Mo(hd:2≤d){a1:S8}{a2:Int}{r:Int⊕(Unit⊕Bool)}(hQ:FQ (bG (u9 a1 a2) (AE a1 a2) r) Q){ig:Int}(hS:sD a1 a2 ig=some r): ∀st,au [0,1,7,8] [] [] st=QB a1 a2 ig→ZX d Q ak5 [] st:=by
 intro st he
 refine av he ?_
 unfold sD at hS
 refine aC (bw (zS (zL 2 (zK (zS (zL 2 (aq hS (fun z7 kO hS=>zO (v:=(.d (.int .u8 (z7.toNat:Int)))) (aD:= []) (some 13) (.iy (tm 11) (tm 12)) (fA (kk:= .i64) (s:=a1) (j:=ig) (by kernel_rfl) (by kernel_rfl) kO) (zO (v:=(dI (z7.toNat:Int))) (aD:= []) (some 14) (.kF .i64 (tm 13)) (gJ (kk:= .u8) (a:=(z7.toNat:Int)) (by kernel_rfl) (qW _)) (aq hS (fun z8 iW hS=>zC 15 (D_ (aV hd rfl) iW) (zL 1 (zK (sR 16 hS (fun hS=>?_) (fun hS=>?_)))))))))))))))
 ·exact zT (zS (zL 1 (zK (cL (cj (bQ (bg (mG hS hQ))))))))
 ·exact lR hS hQ
def QC(a1:S8)(a2 uW:Int)(fH:Bool):St:=⟨(up (up (up (up (up u0 9 (dB fH)) 8 (dI uW)) 7 (dI (a1.length:Int))) 1 (dI a2)) 0 (.d (.str a1))),h0⟩
def mK(a1:S8)(a2 uW:Int)(fH:Bool):Option (Int⊕(Unit⊕Bool)):=(bif fH then (sD a1 a2 uW) else (some (.inr (.inl ()))))
theorem BP(hd:2≤d){a1:S8}{a2:Int}{r:Int⊕(Unit⊕Bool)}(hQ:FQ (bG (u9 a1 a2) (AE a1 a2) r) Q){uW:Int}{fH:Bool}(hS:mK a1 a2 uW fH=some r): ∀st,au [0,1,7,8,9] [] [] st=QC a1 a2 uW fH→ZX d Q ak6 [] st:=by
 intro st he
 refine av he ?_
 unfold mK at hS
 refine aC (sR 9 hS (fun hS=>?_) (fun hS=>?_))
 ·exact jR (Mo hd hQ hS)
 ·exact zF (av (J:=Ea a1 a2) (by kernel_rfl) (cX (cV (bg (jw hS hQ)))))
def wU(a1:S8)(a2 x:Int):Option (Int⊕(Unit⊕Bool)):=(bif (decide (x<(a1.length:Int))) then (mK a1 a2 x true) else (mK a1 a2 x false))
theorem Xx(hd:2≤d){a1:S8}{a2:Int}{r:Int⊕(Unit⊕Bool)}(hQ:FQ (bG (u9 a1 a2) (AE a1 a2) r) Q){x:Int}(hS:wU a1 a2 x=some r)(he:u9 a1 a2 x st):ZX d Q ak7 [] st:=by
 refine av he ?_
 unfold wU at hS
 refine zS (sB 9 hS (fun hS=>?_) (fun hS=>?_))
 ·exact zK (BP hd hQ hS _ (by kernel_rfl))
 ·exact jL (BP hd hQ hS)
def f56(a1:S8)(a2:Int):Option (Bool):=((b9 (wU a1 a2) 0).bind fun z9=>(Sum.elim (fun dh=>(bif (decide ((a1.length:Int)≤a2)) then (some true) else (some false))) (fun cM=>(some cM)) z9))
theorem avN{d:Nat}(hd:2≤d){a1:S8}{a2:Int}{r:Bool}(hS:f56 a1 a2=some r):bZ ay aX d 56 [(.d (.str a1)),(dI a2)] []=some ((dB r),[]):=by
 refine cI hd (fun Q hQ=>?_) aoE
 unfold f56 at hS
 show ZR _ Q ak8 [] _
 replace hQ:FQ (aAr r) Q:=hQ
 refine zS (zL 1 (zK (aC (zS (zL 3 (zK (bw (aq hS (fun z9 jF hS=>dF (u9 a1 a2) (AE a1 a2) (fun x st r Q h0 hS hQ=>Xx hd hQ hS h0) (x:=0) (z:=z9) (by show au _ _ _ _=_;kernel_rfl) jF ?_)))))))))
 rcases z9 with dh | cM
 ·replace hS:=(show _=_ from hS)
  simp only [tD] at hS
  intro e bl _ hX
  obtain ⟨rfl,rfl⟩:_∧_:=hX
  refine kq (cq (zS (zL 3 (sB 21 hS (fun hS=>?_) (fun hS=>?_)))))
  ·exact nL hS hQ
  ·exact nL hS hQ
 ·simp only [tE] at hS
  intro e bl _ hX
  obtain ⟨rfl,hX⟩:_∧_:=hX
  exact cj (bQ (bg (dW hS hQ (je (by kernel_rfl) ((congrArg (fun s=>cN s 0 WR.res) hX).trans ao9)))))
/- farwriter/parse.Check -/
def Ks(r:Int)(e:PX)(st:St):Prop:=aU c21 0 ((dI r),[]) e st
def ag5(a1:aS)(kC:Bool):St:=⟨(up (up u0 6 (dB kC)) 1 (pt 16)),(up h0 16 ⟨0,some (.box (sx a1))⟩)⟩
def nQ(a1:aS)(kC:Bool):Option (Int):=(bif kC then (bif (decide ((a1.Text.length:Int)≤256)) then (bif (decide (a1.Text=([]:S8))) then (some 0) else (bif (decide (a1.State=7)) then (some 0) else (bif (decide (a1.State=8)) then (some 0) else (some 4)))) else (some 4)) else (some 4))
theorem mL(hd:3≤d){a1:aS}{r:Int}(hQ:FQ (Ks r) Q){kC:Bool}(hS:nQ a1 kC=some r): ∀st,au [1,6] [(16,.id 16)] [] st=ag5 a1 kC→ZX d Q ak9 [] st:=by
 intro st he
 refine av he ?_
 unfold nQ at hS
 refine zS (zL 2 (sL 85 hS (fun hS=>?_) (fun hS=>?_)))
 ·refine zL 3 (sB 89 hS (fun hS=>?_) (fun hS=>?_))
  ·refine zL 4 (sB 94 hS (fun hS=>?_) (fun hS=>?_))
   ·exact nL hS hQ
   ·refine zL 3 (sB 98 hS (fun hS=>?_) (fun hS=>?_))
    ·exact nL hS hQ
    ·refine zL 4 (sB 103 hS (fun hS=>?_) (fun hS=>?_))
     ·exact nL hS hQ
     ·exact nL hS hQ
  ·exact nL hS hQ
 ·exact nL hS hQ
def ag6(a1:aS)(fj:Int)(gf:Bool):St:=⟨(up (up (up u0 6 (dB gf)) 5 (dI fj)) 1 (pt 16)),(up h0 16 ⟨0,some (.box (sx a1))⟩)⟩
def pN(a1:aS)(fj:Int)(gf:Bool):Option (Int):=(bif gf then (bif (decide (fj=0)) then (bif (decide ((a1.Args.length:Int)≤100)) then (bif (decide (a1.Args=([]:S8))) then (nQ a1 true) else (bif (decide (a1.State=4)) then (nQ a1 true) else (bif (decide (a1.State=5)) then (nQ a1 true) else (nQ a1 false)))) else (nQ a1 false)) else (nQ a1 false)) else (nQ a1 false))
theorem oV(hd:3≤d){a1:aS}{r:Int}(hQ:FQ (Ks r) Q){fj:Int}{gf:Bool}(hS:pN a1 fj gf=some r): ∀st,au [1,5,6] [(16,.id 16)] [] st=ag6 a1 fj gf→ZX d Q ak_ [] st:=by
 intro st he
 refine av he ?_
 unfold pN at hS
 refine zS (zL 2 (sL 59 hS (fun hS=>?_) (fun hS=>?_)))
 ·refine zL 1 (sB 61 hS (fun hS=>?_) (fun hS=>?_))
  ·refine zL 5 (sB 67 hS (fun hS=>?_) (fun hS=>?_))
   ·refine zL 4 (sB 72 hS (fun hS=>?_) (fun hS=>?_))
    ·exact zL 12 (zK (mL hd hQ hS _ (by kernel_rfl)))
    ·refine zL 3 (sB 76 hS (fun hS=>?_) (fun hS=>?_))
     ·exact zL 8 (zK (mL hd hQ hS _ (by kernel_rfl)))
     ·refine zL 4 (sB 81 hS (fun hS=>?_) (fun hS=>?_))
      ·exact zL 3 (zK (mL hd hQ hS _ (by kernel_rfl)))
      ·exact zL 3 (zK (mL hd hQ hS _ (by kernel_rfl)))
   ·exact zL 17 (zK (mL hd hQ hS _ (by kernel_rfl)))
  ·exact zL 23 (zK (mL hd hQ hS _ (by kernel_rfl)))
 ·exact jL (mL hd hQ hS)
def ag7(a1:aS)(iY:Bool)(iF:Int)(iG:Bool):St:=⟨(up (up (up (up u0 6 (dB iG)) 5 (dI iF)) 3 (dB iY)) 1 (pt 16)),(up h0 16 ⟨0,some (.box (sx a1))⟩)⟩
def pO(a1:aS)(iY:Bool)(iF:Int)(iG:Bool):Option (Int):=(bif iG then ((f56 a1.Inter 3).bind fun z9=>(bif z9 then (bif (!decide (a1.Inter=([]:S8))) then (bif (decide (true=iY)) then (pN a1 iF true) else (pN a1 iF false)) else (bif (decide (false=iY)) then (pN a1 iF true) else (pN a1 iF false))) else (pN a1 iF false))) else (pN a1 iF false))
theorem oW(hd:3≤d){a1:aS}{r:Int}(hQ:FQ (Ks r) Q){iY:Bool}{iF:Int}{iG:Bool}(hS:pO a1 iY iF iG=some r): ∀st,au [1,3,5,6] [(16,.id 16)] [] st=ag7 a1 iY iF iG→ZX d Q ala [] st:=by
 intro st he
 refine av he ?_
 unfold pO at hS
 refine zS (zL 2 (sL 46 hS (fun hS=>?_) (fun hS=>?_)))
 ·refine zL 2 (aq hS (fun z9 jF hS=>zG (some 49) 46 true (.call 56 [(tm 48),(ki 3)]) (b_ (avN (aV hd rfl) jF)) (zL 2 (sL 51 hS (fun hS=>?_) (fun hS=>?_)))))
  ·refine zL 2 (sB 54 hS (fun hS=>?_) (fun hS=>?_))
   ·refine zL 1 (sB 56 hS (fun hS=>?_) (fun hS=>?_))
    ·exact zL 2 (zK (oV hd hQ hS _ (by kernel_rfl)))
    ·exact zL 2 (zK (oV hd hQ hS _ (by kernel_rfl)))
   ·refine zL 1 (sB 56 hS (fun hS=>?_) (fun hS=>?_))
    ·exact zL 2 (zK (oV hd hQ hS _ (by kernel_rfl)))
    ·exact zL 2 (zK (oV hd hQ hS _ (by kernel_rfl)))
  ·exact zL 7 (zK (oV hd hQ hS _ (by kernel_rfl)))
 ·exact jL (oV hd hQ hS)
def ag8(a1:aS)(gU:Bool):St:=⟨(up (up u0 3 (dB gU)) 1 (pt 16)),(up h0 16 ⟨0,some (.box (sx a1))⟩)⟩
def wV(a1:aS)(gU:Bool):Option (Int):=((f54 a1.Args).bind fun z5=>((f55 a1.State 0 10).bind fun z6=>(bif z6 then (bif (decide (a1.Mark=0)) then (pO a1 gU z5.2 true) else ((f55 a1.Mark 60 63).bind fun dh=>(bif dh then (bif (decide (a1.State=4)) then (pO a1 gU z5.2 true) else (bif (decide (a1.State=5)) then (pO a1 gU z5.2 true) else (pO a1 gU z5.2 false))) else (pO a1 gU z5.2 false)))) else (pO a1 gU z5.2 false))))
theorem CT(hd:3≤d){a1:aS}{r:Int}(hQ:FQ (Ks r) Q){gU:Bool}(hS:wV a1 gU=some r): ∀st,au [1,3] [(16,.id 16)] [] st=ag8 a1 gU→ZX d Q alb [] st:=by
 intro st he
 refine av he ?_
 unfold wV at hS
 refine zS (zL 2 (aq hS (fun z5 jQ hS=>zC 18 (adW (aV hd rfl) jQ) (zL 5 (zK (zS (zL 2 (aq hS (fun z6 l9 hS=>zC 23 (D_ (aV hd rfl) l9) (zL 1 (zK (zS (zL 2 (sL 25 hS (fun hS=>?_) (fun hS=>?_)))))))))))))))
 ·refine zL 2 (sB 28 hS (fun hS=>?_) (fun hS=>?_))
  ·exact zL 17 (zK (oW hd hQ hS _ (by kernel_rfl)))
  ·refine zL 3 (aq hS (fun dh iT hS=>zG (some 32) 29 false (.call 55 [(tm 31),(ki 60),(ki 63)]) (b_ (D_ (aV hd rfl) iT)) (zL 1 (sL 33 hS (fun hS=>?_) (fun hS=>?_)))))
   ·refine zL 2 (sB 36 hS (fun hS=>?_) (fun hS=>?_))
    ·exact zL 9 (zK (oW hd hQ hS _ (by kernel_rfl)))
    ·refine zL 3 (sB 40 hS (fun hS=>?_) (fun hS=>?_))
     ·exact zL 5 (zK (oW hd hQ hS _ (by kernel_rfl)))
     ·exact zL 5 (zK (oW hd hQ hS _ (by kernel_rfl)))
   ·exact zL 12 (zK (oW hd hQ hS _ (by kernel_rfl)))
 ·exact jL (oW hd hQ hS)
def f21(a1:aS):Option (Int):=(bif (decide (a1.State=2)) then (wV a1 true) else (bif (decide (a1.State=5)) then (wV a1 true) else (wV a1 false)))
theorem adX{d:Nat}(hd:3≤d){a1:aS}{r:Int}(hS:f21 a1=some r):bZ ay aX d 21 [(.agg (sx a1))] []=some ((dI r),[]):=by
 refine cI hd (fun Q hQ=>?_) aoe
 unfold f21 at hS
 show ZR _ Q alc [] _
 replace hQ:FQ (Ks r) Q:=hQ
 refine zS (zL 2 (zK (zS (zL 2 (sB 9 hS (fun hS=>?_) (fun hS=>?_))))))
 ·exact zL 6 (zK (CT hd hQ hS _ (by kernel_rfl)))
 ·refine zL 3 (sB 13 hS (fun hS=>?_) (fun hS=>?_))
  ·exact zL 2 (zK (CT hd hQ hS _ (by kernel_rfl)))
  ·exact jL (CT hd hQ hS)
/- farwriter/grid.size -/
def aAs(r:Int)(e:PX)(st:St):Prop:=aU c88 0 ((dI r),[]) e st
def f88(a1 a2:Int):Option (Int):=(bif (decide (a1<1)) then (some 1) else (bif (decide (160<a1)) then (some 1) else (bif (decide (a2<1)) then (some 1) else (bif (decide (60<a2)) then (some 1) else (some 0)))))
theorem adY{d:Nat}(hd:1≤d){a1 a2 r:Int}(hS:f88 a1 a2=some r):bZ ay aX d 88 [(dI a1),(dI a2)] []=some ((dI r),[]):=by
 refine cI hd (fun Q hQ=>?_) aoW
 unfold f88 at hS
 show ZR _ Q ald [] _
 replace hQ:FQ (aAs r) Q:=hQ
 refine zS (zL 1 (zK (aC (zS (zL 1 (sB 6 hS (fun hS=>?_) (fun hS=>?_)))))))
 ·exact nL hS hQ
 ·refine zL 2 (sB 9 hS (fun hS=>?_) (fun hS=>?_))
  ·exact nL hS hQ
  ·refine zL 3 (sB 13 hS (fun hS=>?_) (fun hS=>?_))
   ·exact nL hS hQ
   ·refine zL 3 (sB 17 hS (fun hS=>?_) (fun hS=>?_))
    ·exact nL hS hQ
    ·exact nL hS hQ
/- farwriter/grid.row -/
def aAt(r:(List ah))(e:PX)(st:St):Prop:=aU c89 0 ((dE aj r),[.box []]) e st
def f89(a1:bS)(a2:Int):Option ((List ah)):=((qL a1.Cells (IntKind.i64.wrap (a2*a1.bR)) (IntKind.i64.wrap ((IntKind.i64.wrap (a2+1))*a1.bR))).bind fun z2=>(some z2))
theorem adZ{d:Nat}(hd:1≤d){a1:bS}{a2:Int}{r:(List ah)}(hS:f89 a1 a2=some r):bZ ay aX d 89 [(.agg (sy a1)),(dI a2)] []=some ((dE aj r),[.box []]):=by
 refine cI hd (fun Q hQ=>?_) Tq
 unfold f89 at hS
 show ZR _ Q WS [] _
 replace hQ:FQ (aAt r) Q:=hQ
 exact zS (zL 2 (zK (zS (zL 11 (aq hS (fun z2 hz2 hS=>zO (v:=(dE aj z2)) (aD:= []) (some 16) (.wq 87 4 (tm 6) (.some (tm 10)) (.some (tm 15))) (Z_ aj (xs:=a1.Cells) (a:=(IntKind.i64.wrap (a2*a1.bR))) (c:=(IntKind.i64.wrap ((IntKind.i64.wrap (a2+1))*a1.bR))) (by kernel_rfl) rfl (mD _ (kk:= .i64) (j:=(IntKind.i64.wrap (a2*a1.bR))) (by kernel_rfl)) (mD _ (kk:= .i64) (j:=(IntKind.i64.wrap ((IntKind.i64.wrap (a2+1))*a1.bR))) (by kernel_rfl)) hz2) (nL hS hQ)))))))
/- farwriter/pen.color -/
def aAu(r:Bool)(e:PX)(st:St):Prop:=aU c92 0 ((dB r),[]) e st
def f92(a1:Int):Option (Bool):=(bif (decide (0≤a1)) then (bif (decide (a1≤256)) then (some true) else (bif (decide (16777216≤a1)) then (bif (decide (a1<33554432)) then (some true) else (some false)) else (some false))) else (bif (decide (16777216≤a1)) then (bif (decide (a1<33554432)) then (some true) else (some false)) else (some false)))
theorem ad0{d:Nat}(hd:1≤d){a1:Int}{r:Bool}(hS:f92 a1=some r):bZ ay aX d 92 [(dI a1)] []=some ((dB r),[]):=by
 refine cI hd (fun Q hQ=>?_) aoZ
 unfold f92 at hS
 show ZR _ Q alf [] _
 replace hQ:FQ (aAu r) Q:=hQ
 refine zS (zL 1 (zK (zS (zL 1 (sB 4 hS (fun hS=>?_) (fun hS=>?_))))))
 ·refine zL 2 (sB 7 hS (fun hS=>?_) (fun hS=>?_))
  ·exact nL hS hQ
  ·refine zL 3 (sB 11 hS (fun hS=>?_) (fun hS=>?_))
   ·refine zL 2 (sB 14 hS (fun hS=>?_) (fun hS=>?_))
    ·exact nL hS hQ
    ·exact nL hS hQ
   ·exact nL hS hQ
 ·refine zL 6 (sB 11 hS (fun hS=>?_) (fun hS=>?_))
  ·refine zL 2 (sB 14 hS (fun hS=>?_) (fun hS=>?_))
   ·exact nL hS hQ
   ·exact nL hS hQ
  ·exact nL hS hQ
/- farwriter/pen.Check -/
def aAv(r:Int)(e:PX)(st:St):Prop:=aU c59 0 ((dI r),[]) e st
def f59(a1:bA):Option (Int):=(bif (decide (a1.Flags<0)) then (some 4) else (bif (decide (255<a1.Flags)) then (some 4) else ((f92 a1.dP).bind fun z3=>(bif (!z3) then (some 4) else ((f92 a1.dm).bind fun z4=>(bif (!z4) then (some 4) else (some 0)))))))
theorem Ir{d:Nat}(hd:2≤d){a1:bA}{r:Int}(hS:f59 a1=some r):bZ ay aX d 59 [(BF a1)] []=some ((dI r),[]):=by
 refine cI hd (fun Q hQ=>?_) aoH
 unfold f59 at hS
 show ZR _ Q alg [] _
 replace hQ:FQ (aAv r) Q:=hQ
 refine zS (zL 2 (zK (aC (zS (zL 2 (sB 5 hS (fun hS=>?_) (fun hS=>?_)))))))
 ·exact nL hS hQ
 ·refine zL 3 (sB 9 hS (fun hS=>?_) (fun hS=>?_))
  ·exact nL hS hQ
  ·refine zL 4 (aq hS (fun z3 hz3 hS=>zG (some 14) 11 false (c1 92 13) (b_ (ad0 (aV hd rfl) hz3)) (zL 3 (sL 17 hS (fun hS=>?_) (fun hS=>?_)))))
   ·exact nL hS hQ
   ·refine zL 2 (aq hS (fun z4 iZ hS=>zG (some 20) 17 false (c1 92 19) (b_ (ad0 (aV hd rfl) iZ)) (zL 2 (zK (sR 22 hS (fun hS=>?_) (fun hS=>?_))))))
    ·exact nR hS hQ
    ·exact nR hS hQ
/- farwriter/width.in -/
def Ol(oX:Bool):St:=⟨(up u0 4 (dB oX)),h0⟩
theorem ag9{oX:Bool}:cN (Ol oX) 0 J7.res=some ((dB oX),[]):=by
 kernel_rfl
def avO(r:Bool)(e:PX)(st:St):Prop:=aU J7 0 ((dB r),[]) e st
def Xy(a1:Int)(a2:List (Int×Int))(x:Int):St:=⟨(up (up (up (up u0 9 (dI x)) 8 (dI (a2.length:Int))) 7 (dE sw a2)) 0 (dI a1)),h0⟩
def sF(a1:Int)(a2:List (Int×Int))(x:Int)(st:St):Prop:=au [0,7,8,9] [] [] st=Xy a1 a2 x
def BQ(a1:Int)(a2:List (Int×Int)):St:=⟨u0,h0⟩
def wW(a1:Int)(a2:List (Int×Int))(z:Unit⊕Bool)(e:PX)(st:St):Prop:=(match z with | .inl z=>e= .exit 0∧st=BQ a1 a2 | .inr z=>e= .ret∧dV J7.fin st=Ol z)
def Mq(a1:Int)(a2:List (Int×Int))(ld:Int):St:=⟨(up (up (up (up u0 9 (dI ld)) 8 (dI (a2.length:Int))) 7 (dE sw a2)) 0 (dI a1)),h0⟩
def qb(a1:Int)(a2:List (Int×Int))(ld:Int):Option (Int⊕(Unit⊕Bool)):=((idx a2 ld).bind fun z4=>(bif (decide (z4.1≤a1)) then (bif (decide (a1≤z4.2)) then (some (.inr (.inr true))) else (some (.inl (IntKind.i64.wrap (ld+1))))) else (some (.inl (IntKind.i64.wrap (ld+1))))))
theorem Kt(hd:1≤d){a1:Int}{a2:List (Int×Int)}{r:Int⊕(Unit⊕Bool)}(hQ:FQ (bG (sF a1 a2) (wW a1 a2) r) Q){ld:Int}(hS:qb a1 a2 ld=some r): ∀st,au [0,7,8,9] [] [] st=Mq a1 a2 ld→ZX d Q aao [] st:=by
 intro st he
 refine av he ?_
 unfold qb at hS
 refine aC (bw (zS (aq hS (fun z4 iZ hS=>zO (v:=(.cD (sw.enc z4++(sw.cells (a2.drop ((ld:Int).toNat+1)))))) (aD:= []) (some 11) (.jc 35 2 (tm 7) (tm 9)) (eY sw (kk:= .i64) (xs:=a2) (j:=ld) (by kernel_rfl) (by kernel_rfl) iZ rfl (by intro h;cases h)) (zL 3 (zK (zS (zL 3 (sB 16 hS (fun hS=>?_) (fun hS=>?_))))))))))
 ·refine zL 4 (sB 21 hS (fun hS=>?_) (fun hS=>?_))
  ·exact zL 1 (zK (zT (zS (zL 1 (zK (cL (cj (bQ (bg (mG hS hQ))))))))))
  ·exact lL hS hQ
 ·exact lL hS hQ
def Mr(a1:Int)(a2:List (Int×Int))(p30:Int)(F3:Bool):St:=⟨(up (up (up (up (up u0 10 (dB F3)) 9 (dI p30)) 8 (dI (a2.length:Int))) 7 (dE sw a2)) 0 (dI a1)),h0⟩
def kQ(a1:Int)(a2:List (Int×Int))(p30:Int)(F3:Bool):Option (Int⊕(Unit⊕Bool)):=(bif F3 then (qb a1 a2 p30) else (some (.inr (.inl ()))))
theorem y9(hd:1≤d){a1:Int}{a2:List (Int×Int)}{r:Int⊕(Unit⊕Bool)}(hQ:FQ (bG (sF a1 a2) (wW a1 a2) r) Q){p30:Int}{F3:Bool}(hS:kQ a1 a2 p30 F3=some r): ∀st,au [0,7,8,9,10] [] [] st=Mr a1 a2 p30 F3→ZX d Q aap [] st:=by
 intro st he
 refine av he ?_
 unfold kQ at hS
 refine aC (sR 10 hS (fun hS=>?_) (fun hS=>?_))
 ·exact jR (Kt hd hQ hS)
 ·exact zF (av (J:=BQ a1 a2) (by kernel_rfl) (cX (cV (bg (jw hS hQ)))))
def sG(a1:Int)(a2:List (Int×Int))(x:Int):Option (Int⊕(Unit⊕Bool)):=(bif (decide (x<(a2.length:Int))) then (kQ a1 a2 x true) else (kQ a1 a2 x false))
theorem TH(hd:1≤d){a1:Int}{a2:List (Int×Int)}{r:Int⊕(Unit⊕Bool)}(hQ:FQ (bG (sF a1 a2) (wW a1 a2) r) Q){x:Int}(hS:sG a1 a2 x=some r)(he:sF a1 a2 x st):ZX d Q aaq [] st:=by
 refine av he ?_
 unfold sG at hS
 refine zS (sB 10 hS (fun hS=>?_) (fun hS=>?_))
 ·exact zK (y9 hd hQ hS _ (by kernel_rfl))
 ·exact jL (y9 hd hQ hS)
def f126(a1:Int)(a2:List (Int×Int)):Option (Bool):=((b9 (sG a1 a2) 0).bind fun z5=>(Sum.elim (fun z6=>(some false)) (fun z7=>(some z7)) z5))
theorem TI{d:Nat}(hd:1≤d){a1:Int}{a2:List (Int×Int)}{r:Bool}(hS:f126 a1 a2=some r):bZ ay aX d 126 [(dI a1),(dE sw a2)] []=some ((dB r),[]):=by
 refine cI hd (fun Q hQ=>?_) afQ
 unfold f126 at hS
 show ZR _ Q aar [] _
 replace hQ:FQ (avO r) Q:=hQ
 refine zS (zL 1 (zK (aC (zS (zL 3 (zK (bw (aq hS (fun z5 jQ hS=>dF (sF a1 a2) (wW a1 a2) (fun x st r Q h0 hS hQ=>TH hd hQ hS h0) (x:=0) (z:=z5) (by show au _ _ _ _=_;kernel_rfl) jQ ?_)))))))))
 rcases z5 with z6 | z7
 ·replace hS:=(show _=_ from hS)
  simp only [tD] at hS
  intro e bl _ hX
  obtain ⟨rfl,rfl⟩:_∧_:=hX
  exact nK hS hQ
 ·simp only [tE] at hS
  intro e bl _ hX
  obtain ⟨rfl,hX⟩:_∧_:=hX
  exact cj (bQ (bg (dW hS hQ (je (by kernel_rfl) ((congrArg (fun s=>cN s 0 J7.res) hX).trans ag9)))))
/- farwriter/width.Of -/
def ao_(r:Int)(e:PX)(st:St):Prop:=aU c90 0 ((dI r),[]) e st
def aha(a1:Int)(p4:Bool):St:=⟨(up (up (up u0 25 (dB p4)) 4 (pt 40)) 0 (dI a1)),(up h0 40 ⟨0,some (.box ((sw.row 12 (fun i=>([(4352,4447),(11904,12350),(12353,19903),(19968,42191),(44032,55203),(63744,64255),(65072,65135),(65280,65376),(65504,65510),(127744,128591),(129280,129535),(131072,262141)]:List (Int×Int)).getD i (0,0)))++ []))⟩)⟩
def AG(a1:Int)(p4:Bool):Option (Int):=(bif p4 then (some 0) else ((f126 a1 [(4352,4447),(11904,12350),(12353,19903),(19968,42191),(44032,55203),(63744,64255),(65072,65135),(65280,65376),(65504,65510),(127744,128591),(129280,129535),(131072,262141)]).bind fun z4=>(bif z4 then (some 2) else (some 1))))
theorem CU(hd:2≤d){a1 r:Int}(hQ:FQ (ao_ r) Q){p4:Bool}(hS:AG a1 p4=some r): ∀st,au [0,4,25] [(40,.id 40)] [] st=aha a1 p4→ZX d Q ali [.blk 0,.seq alj] st:=by
 intro st he
 refine av he ?_
 unfold AG at hS
 refine sR 25 hS (fun hS=>?_) (fun hS=>?_)
 ·exact nR hS hQ
 ·refine zF (zS (zL 2 (aq hS (fun z4 iZ hS=>zC 40 (TI (aV hd rfl) iZ) (zL 1 (zK (sR 37 hS (fun hS=>?_) (fun hS=>?_))))))))
  ·exact nR hS hQ
  ·exact nR hS hQ
def f90(a1:Int):Option (Int):=(bif (decide (a1<0)) then (AG a1 true) else (bif (decide (1114111<a1)) then (AG a1 true) else ((f126 a1 [(0,31),(127,159),(768,879),(8203,8207),(55296,57343),(65024,65039)]).bind fun z5=>(AG a1 z5))))
theorem Eb{d:Nat}(hd:2≤d){a1 r:Int}(hS:f90 a1=some r):bZ ay aX d 90 [(dI a1)] []=some ((dI r),[]):=by
 refine cI hd (fun Q hQ=>?_) aoX
 unfold f90 at hS
 show ZR _ Q alk [] _
 replace hQ:FQ (ao_ r) Q:=hQ
 refine zS (zL 1 (zK (zS (zL 9 (zK (zS (zL 15 (zK (aC (bw (zS (zL 1 (sB 27 hS (fun hS=>?_) (fun hS=>?_))))))))))))))
 ·exact zL 10 (zK (CU hd hQ hS _ (by kernel_rfl)))
 ·refine zL 2 (sB 30 hS (fun hS=>?_) (fun hS=>?_))
  ·exact zL 7 (zK (CU hd hQ hS _ (by kernel_rfl)))
  ·exact zL 4 (aq hS (fun z5 jQ hS=>zG (some 35) 32 false (.call 126 [(tm 33),(tm 34)]) (b_ (TI (aV hd rfl) jQ)) (jL (CU hd hQ hS))))
/- farwriter/grid.lone$1 -/
def avP(r:Bool)(e:PX)(st:St):Prop:=aU aat 0 ((dB r),[]) e st
def f127(a1:Int)(a2:List ah)(a3:List PD):Option (Bool):=(bif (decide (a1<(a2.length:Int))) then ((idx a2 a1).bind fun z4=>(bif (decide (z4.eB=0)) then ((idx a2 a1).bind fun z5=>((idx a2 (IntKind.i64.wrap (a1-1))).bind fun z6=>(bif (decide (z5.bP.Flags=z6.bP.Flags)&&(decide (z5.bP.dP=z6.bP.dP)&&(decide (z5.bP.dm=z6.bP.dm)&&true))) then (some true) else (some false)))) else (some false))) else (some false))
theorem TJ{d:Nat}(hd:1≤d){a1:Int}{a2:List ah}{a3:List PD}{r:Bool}(hS:f127 a1 a2 a3=some r):bZ ay aX d 127 [(dI a1),(.cD ((ir aj).enc a2++a3))] []=some ((dB r),[]):=by
 refine cI hd (fun Q hQ=>?_) afR
 unfold f127 at hS
 show ZR _ Q aas [] _
 replace hQ:FQ (avP r) Q:=hQ
 refine zS (zL 1 (zK (aC (cG (cy 3 (JY 7 none (.tH .lss (tm 4) (tm 6)) hS (fun hS=>?_) (fun hS=>?_)))))))
 ·refine cy 3 (aq hS (fun z4 iZ hS=>di (v:=(.cD (aj.enc z4++(aj.cells (a2.drop ((a1:Int).toNat+1)))))) (aD:= []) (some 11) (some (8,true)) (.jc 87 4 (tm 9) (tm 10)) (eY aj (kk:= .i64) (xs:=a2) (j:=a1) (by kernel_rfl) (by kernel_rfl) iZ rfl (by intro h;cases h)) (cy 2 (JY 14 (some (8,true)) (ck 13 0) hS (fun hS=>?_) (fun hS=>?_)))))
  ·refine cy 4 (aq hS (fun z5 jQ hS=>di (v:=(.cD (aj.enc z5++(aj.cells (a2.drop ((a1:Int).toNat+1)))))) (aD:= []) (some 19) (some (16,true)) (.jc 87 4 (tm 17) (tm 18)) (eY aj (kk:= .i64) (xs:=a2) (j:=a1) (by kernel_rfl) (by kernel_rfl) jQ rfl (by intro h;cases h)) (cy 5 (aq hS (fun z6 l9 hS=>di (v:=(.cD (aj.enc z6++(aj.cells (a2.drop (((IntKind.i64.wrap (a1-1)):Int).toNat+1)))))) (aD:= []) (some 25) (some (16,true)) (.jc 87 4 (tm 22) (tm 24)) (eY aj (kk:= .i64) (xs:=a2) (j:=(IntKind.i64.wrap (a1-1))) (by kernel_rfl) (by kernel_rfl) l9 rfl (by intro h;cases h)) (cy 2 (JY 28 (some (16,true)) (.L9 .false [(3,.int)] (tm 21) (tm 27)) hS (fun hS=>?_) (fun hS=>?_))))))))
   ·exact cy 2 (fG (nK hS hQ))
   ·exact cy 2 (fG (nK hS hQ))
  ·exact cy 16 (fG (nK hS hQ))
 ·exact cy 23 (fG (nK hS hQ))
/- farwriter/grid.lone -/
def apa(r:Bool)(e:PX)(st:St):Prop:=aU c91 0 ((dB r),[]) e st
def ahb(a1:List ah)(a2:Int):St:=⟨(up (up (up u0 5 (.fn 127 [(pt 24)])) 2 (pt 24)) 1 (dI a2)),(up h0 24 ⟨0,some (.box ((dE aj a1):: []))⟩)⟩
def Iu(a1:List ah)(a2:Int):Option (Bool):=((idx a1 a2).bind fun z12=>((f90 z12.eB).bind fun dX=>(bif (decide (dX=2)) then ((f127 (IntKind.i64.wrap (a2+1)) a1 []).bind fun dR=>(some (!dR))) else (some false))))
theorem Xz(hd:3≤d){a1:List ah}{a2:Int}{r:Bool}(hQ:FQ (apa r) Q)(hS:Iu a1 a2=some r): ∀st,au [1,2,5] [(24,.id 24)] [] st=ahb a1 a2→ZX d Q aln [] st:=by
 intro st he
 refine av he ?_
 unfold Iu at hS
 refine zS (zL 2 (aq hS (fun z12 gG hS=>zO (v:=(.cD (aj.enc z12++(aj.cells (a1.drop ((a2:Int).toNat+1)))))) (aD:= []) (some 33) (.jc 87 4 (tm 31) (tm 32)) (eY aj (kk:= .i64) (xs:=a1) (j:=a2) (by kernel_rfl) (by kernel_rfl) gG rfl (by intro h;cases h)) (zL 2 (aq hS (fun dX iU hS=>zC 36 (Eb (aV hd rfl) iU) (sB 37 hS (fun hS=>?_) (fun hS=>?_))))))))
 ·exact zL 4 (aq hS (fun dR kz hS=>zG (v:=(dB dR)) (aD:= []) (some 42) 38 true (.lM (tm 39) [(tm 41)]) (ox (f:=127) (cs:= [(pt 24)]) (by kernel_rfl) (args:= [(dI (IntKind.i64.wrap (a2+1))),(pt 24)]) (l:= [(dI (IntKind.i64.wrap (a2+1))),(.cD ((ir aj).enc a1++ []))]) (r:=(dB dR)) (by kernel_rfl) (by kernel_rfl) (TJ (aV hd rfl) kz) (by kernel_rfl) (by kernel_rfl) (by kernel_rfl)) (nL hS hQ)))
 ·exact nL hS hQ
def f91(a1:List ah)(a2:Int):Option (Bool):=((idx a1 a2).bind fun dx=>(bif (decide (dx.eB=0)) then (bif (decide (a2=0)) then (some true) else ((idx a1 (IntKind.i64.wrap (a2-1))).bind fun f_=>((f90 f_.eB).bind fun gb=>(bif (!decide (gb=2)) then (some true) else ((f127 a2 a1 []).bind fun gS=>(some (!gS))))))) else (Iu a1 a2)))
theorem QD{d:Nat}(hd:3≤d){a1:List ah}{a2:Int}{r:Bool}(hS:f91 a1 a2=some r):bZ ay aX d 91 [(dE aj a1),(dI a2)] []=some ((dB r),[]):=by
 refine cI hd (fun Q hQ=>?_) aoY
 unfold f91 at hS
 show ZR _ Q alo [] _
 replace hQ:FQ (apa r) Q:=hQ
 refine zS (zL 2 (zK (zS (zL 2 (zK (aC (zS (zL 2 (aq hS (fun dx ju hS=>zO (v:=(.cD (aj.enc dx++(aj.cells (a1.drop ((a2:Int).toNat+1)))))) (aD:= []) (some 9) (.jc 87 4 (tm 7) (tm 8)) (eY aj (kk:= .i64) (xs:=a1) (j:=a2) (by kernel_rfl) (by kernel_rfl) ju rfl (by intro h;cases h)) (zL 2 (sB 12 hS (fun hS=>?_) (fun hS=>?_)))))))))))))
 ·refine zK (zT (zS (zL 1 (sB 14 hS (fun hS=>?_) (fun hS=>?_)))))
  ·exact nL hS hQ
  ·refine zL 4 (aq hS (fun f_ lH hS=>zG (v:=(.cD (aj.enc f_++(aj.cells (a1.drop (((IntKind.i64.wrap (a2-1)):Int).toNat+1)))))) (aD:= []) (some 19) 15 false (.jc 87 4 (tm 16) (tm 18)) (eY aj (kk:= .i64) (xs:=a1) (j:=(IntKind.i64.wrap (a2-1))) (by kernel_rfl) (by kernel_rfl) lH rfl (by intro h;cases h)) (zL 2 (aq hS (fun gb nN hS=>zG (some 22) 15 false (c1 90 21) (b_ (Eb (aV hd rfl) nN)) (sB 23 hS (fun hS=>?_) (fun hS=>?_)))))))
   ·exact nL hS hQ
   ·exact zL 4 (aq hS (fun gS qM hS=>zG (v:=(dB gS)) (aD:= []) (some 28) 25 false (.lM (tm 26) [(tm 27)]) (ox (f:=127) (cs:= [(.r (.ptr 24 1 0))]) (by kernel_rfl) (args:= [(dI a2),(.r (.ptr 24 1 0))]) (l:= [(dI a2),(.cD ((ir aj).enc a1++ []))]) (r:=(dB gS)) (by kernel_rfl) (by kernel_rfl) (TJ (aV hd rfl) qM) (by kernel_rfl) (by kernel_rfl) (by kernel_rfl)) (nL hS hQ)))
 ·exact jL (Xz hd hQ hS)
/- farwriter/grid.Check -/
def Ku(ad1:Int):St:=⟨(up u0 2 (dI ad1)),h0⟩
theorem apb{ad1:Int}:cN (Ku ad1) 0 Tg.res=some ((dI ad1),[]):=by
 kernel_rfl
def XA(r:Int)(e:PX)(st:St):Prop:=aU Tg 0 ((dI r),[]) e st
def ahc(a1:bS)(x:Int):St:=⟨(up (up (up u0 27 (dI x)) 26 (dI a1.bW)) 1 (pt 16)),(up h0 16 ⟨0,some (.box (sy a1))⟩)⟩
def u_(a1:bS)(x:Int)(st:St):Prop:=au [1,26,27] [(16,.id 16)] [] st=ahc a1 x
def Ec(a1:bS):St:=⟨u0,h0⟩
def AH(a1:bS)(z:Unit⊕Int)(e:PX)(st:St):Prop:=(match z with | .inl z=>e= .exit 0∧st=Ec a1 | .inr z=>e= .ret∧dV Tg.fin st=Ku z)
def QE(a1:bS)(x:(List ah)×Int×(List ah)×Int×Int):St:=⟨(up (up (up (up (up (up (up u0 35 (dI x.2.2.2.2)) 34 (dI x.2.2.2.1)) 33 (dE aj x.2.2.1)) 27 (dI x.2.1)) 26 (dI a1.bW)) 5 (dE aj x.1)) 1 (pt 16)),(up h0 16 ⟨0,some (.box (sy a1))⟩)⟩
def nS(a1:bS)(x:(List ah)×Int×(List ah)×Int×Int)(st:St):Prop:=au [1,5,26,27,33,34,35] [(16,.id 16)] [] st=QE a1 x
def ya(a1:bS)(aDi:Int):St:=⟨(up (up (up u0 27 (dI aDi)) 26 (dI a1.bW)) 1 (pt 16)),(up h0 16 ⟨0,some (.box (sy a1))⟩)⟩
def qZ(a1:bS)(z:Int⊕Int)(e:PX)(st:St):Prop:=(match z with | .inl z=>e= .exit 2∧st=ya a1 z | .inr z=>e= .ret∧dV Tg.fin st=Ku z)
def HX(a1:bS)(Ed:List ah)(Kv:Int)(BR:List ah)(Kw yb:Int):St:=⟨(up (up (up (up (up (up (up u0 35 (dI yb)) 34 (dI Kw)) 33 (dE aj BR)) 27 (dI Kv)) 26 (dI a1.bW)) 5 (dE aj Ed)) 1 (pt 16)),(up h0 16 ⟨0,some (.box (sy a1))⟩)⟩
def l_(a1:bS)(Ed:List ah)(Kv:Int)(BR:List ah)(Kw yb:Int):Option (((List ah)×Int×(List ah)×Int×Int)⊕(Int⊕Int)):=((idx BR yb).bind fun z67=>((f59 z67.bP).bind fun qD=>(bif (!decide (qD=0)) then (some (.inr (.inr 4))) else (bif (!decide (z67.eB=0)) then ((f90 z67.eB).bind fun HY=>(bif (decide (HY=0)) then (some (.inr (.inr 4))) else ((f91 Ed yb).bind fun z70=>(bif z70 then (some (.inr (.inr 4))) else (some (.inl (Ed,Kv,BR,Kw,(IntKind.i64.wrap (yb+1))))))))) else ((f91 Ed yb).bind fun XB=>(bif XB then (some (.inr (.inr 4))) else (some (.inl (Ed,Kv,BR,Kw,(IntKind.i64.wrap (yb+1)))))))))))
theorem F4(hd:4≤d){a1:bS}{r:((List ah)×Int×(List ah)×Int×Int)⊕(Int⊕Int)}(hQ:FQ (bG (nS a1) (qZ a1) r) Q){Ed:List ah}{Kv:Int}{BR:List ah}{Kw yb:Int}(hS:l_ a1 Ed Kv BR Kw yb=some r): ∀st,au [1,5,26,27,33,34,35] [(16,.id 16)] [] st=HX a1 Ed Kv BR Kw yb→ZX d Q alp [] st:=by
 intro st he
 refine av he ?_
 unfold l_ at hS
 refine aC (bw (zS (zL 1 (aq hS (fun z67 TK hS=>zO (v:=(.cD (aj.enc z67++(aj.cells (BR.drop ((yb:Int).toNat+1)))))) (aD:= []) (some 38) (.jc 87 4 (tm 33) (tm 35)) (eY aj (kk:= .i64) (xs:=BR) (j:=yb) (by kernel_rfl) (by kernel_rfl) TK rfl (by intro h;cases h)) (zL 4 (zK (zS (zL 2 (aq hS (fun qD Om hS=>zC 42 (Ir (aV hd rfl) Om) (sB 43 hS (fun hS=>?_) (fun hS=>?_)))))))))))))
 ·exact zL 16 (zK (zT (zS (zL 1 (zK (cL (cj (bQ (bg (mG hS hQ))))))))))
 ·refine zL 3 (sB 47 hS (fun hS=>?_) (fun hS=>?_))
  ·refine zL 3 (aq hS (fun HY TL hS=>zG (some 51) 48 true (c1 90 50) (b_ (Eb (aV hd rfl) TL)) (sB 52 hS (fun hS=>?_) (fun hS=>?_))))
   ·exact zL 7 (zK (zT (zS (zL 1 (zK (cL (cj (bQ (bg (mG hS hQ))))))))))
   ·refine zL 5 (aq hS (fun z70 apc hS=>zG (some 58) 55 false (.call 91 [(tm 56),(tm 57)]) (b_ (QD (aV hd rfl) apc)) (zL 1 (zK (sR 59 hS (fun hS=>?_) (fun hS=>?_))))))
    ·exact zT (zS (zL 1 (zK (cL (cj (bQ (bg (mG hS hQ))))))))
    ·exact lR hS hQ
  ·refine zL 10 (aq hS (fun XB apd hS=>zG (some 58) 55 false (.call 91 [(tm 56),(tm 57)]) (b_ (QD (aV hd rfl) apd)) (zL 1 (zK (sR 59 hS (fun hS=>?_) (fun hS=>?_))))))
   ·exact zT (zS (zL 1 (zK (cL (cj (bQ (bg (mG hS hQ))))))))
   ·exact lR hS hQ
def HZ(a1:bS)(Oo:List ah)(GV:Int)(Oq:List ah)(Ot Ou:Int)(Ov:Bool):St:=⟨(up (up (up (up (up (up (up (up u0 36 (dB Ov)) 35 (dI Ou)) 34 (dI Ot)) 33 (dE aj Oq)) 27 (dI GV)) 26 (dI a1.bW)) 5 (dE aj Oo)) 1 (pt 16)),(up h0 16 ⟨0,some (.box (sy a1))⟩)⟩
def jo(a1:bS)(Oo:List ah)(GV:Int)(Oq:List ah)(Ot Ou:Int)(Ov:Bool):Option (((List ah)×Int×(List ah)×Int×Int)⊕(Int⊕Int)):=(bif Ov then (l_ a1 Oo GV Oq Ot Ou) else (some (.inr (.inl GV))))
theorem ve(hd:4≤d){a1:bS}{r:((List ah)×Int×(List ah)×Int×Int)⊕(Int⊕Int)}(hQ:FQ (bG (nS a1) (qZ a1) r) Q){Oo:List ah}{GV:Int}{Oq:List ah}{Ot Ou:Int}{Ov:Bool}(hS:jo a1 Oo GV Oq Ot Ou Ov=some r): ∀st,au [1,5,26,27,33,34,35,36] [(16,.id 16)] [] st=HZ a1 Oo GV Oq Ot Ou Ov→ZX d Q alq [] st:=by
 intro st he
 refine av he ?_
 unfold jo at hS
 refine aC (sR 36 hS (fun hS=>?_) (fun hS=>?_))
 ·exact jR (F4 hd hQ hS)
 ·exact zF (av (J:=ya a1 GV) (by kernel_rfl) (cX (cV (bg (jw hS hQ)))))
def kR(a1:bS)(x:(List ah)×Int×(List ah)×Int×Int):Option (((List ah)×Int×(List ah)×Int×Int)⊕(Int⊕Int)):=(bif (decide (x.2.2.2.2<x.2.2.2.1)) then (jo a1 x.1 x.2.1 x.2.2.1 x.2.2.2.1 x.2.2.2.2 true) else (jo a1 x.1 x.2.1 x.2.2.1 x.2.2.2.1 x.2.2.2.2 false))
theorem Ms(hd:4≤d){a1:bS}{r:((List ah)×Int×(List ah)×Int×Int)⊕(Int⊕Int)}(hQ:FQ (bG (nS a1) (qZ a1) r) Q){x:(List ah)×Int×(List ah)×Int×Int}(hS:kR a1 x=some r)(he:nS a1 x st):ZX d Q alr [] st:=by
 refine av he ?_
 unfold kR at hS
 refine zS (sB 36 hS (fun hS=>?_) (fun hS=>?_))
 ·exact zK (ve hd hQ hS _ (by kernel_rfl))
 ·exact jL (ve hd hQ hS)
def QF(a1:bS)(GW:Int):St:=⟨(up (up (up u0 27 (dI GW)) 26 (dI a1.bW)) 1 (pt 16)),(up h0 16 ⟨0,some (.box (sy a1))⟩)⟩
def sH(a1:bS)(GW:Int):Option (Int⊕(Unit⊕Int)):=((f89 a1 GW).bind fun z51=>((b9 (kR a1) (z51,GW,z51,(z51.length:Int),0)).bind fun z72=>(Sum.elim (fun TM=>(some (.inl (IntKind.i64.wrap (TM+1))))) (fun XC=>(some (.inr (.inr XC)))) z72)))
theorem Mt(hd:4≤d){a1:bS}{r:Int⊕(Unit⊕Int)}(hQ:FQ (bG (u_ a1) (AH a1) r) Q){GW:Int}(hS:sH a1 GW=some r): ∀st,au [1,26,27] [(16,.id 16)] [] st=QF a1 GW→ZX d Q als [] st:=by
 intro st he
 refine av he ?_
 unfold sH at hS
 refine aC (bw (zS (zL 2 (zK (zS (zL 2 (aq hS (fun z51 TD hS=>zO (some 32) (.fU 89 [(tm 30),(tm 31)]) (wJ [] [] (adZ (aV hd rfl) TD) qU) (zL 1 (zK (zS (zL 3 (zK (bw (aq hS (fun z72 ad2 hS=>dF (nS a1) (qZ a1) (fun x st r Q h0 hS hQ=>Ms hd hQ hS h0) (x:=(z51,GW,z51,(z51.length:Int),0)) (z:=z72) (by show au _ _ _ _=_;kernel_rfl) ad2 ?_))))))))))))))))
 rcases z72 with TM | XC
 ·replace hS:=(show _=_ from hS)
  simp only [tD] at hS
  intro e bl _ hX
  obtain ⟨rfl,rfl⟩:_∧_:=hX
  exact lK hS hQ
 ·simp only [tE] at hS
  intro e bl _ hX
  obtain ⟨rfl,hX⟩:_∧_:=hX
  exact cj (cj (bQ (bg (dW hS hQ (PU (by intro h;cases h) (by show _=_∧_=_;exact ⟨rfl,hX⟩))))))
def QG(a1:bS)(Ow:Int)(Ox:Bool):St:=⟨(up (up (up (up u0 28 (dB Ox)) 27 (dI Ow)) 26 (dI a1.bW)) 1 (pt 16)),(up h0 16 ⟨0,some (.box (sy a1))⟩)⟩
def mM(a1:bS)(Ow:Int)(Ox:Bool):Option (Int⊕(Unit⊕Int)):=(bif Ox then (sH a1 Ow) else (some (.inr (.inl ()))))
theorem BS(hd:4≤d){a1:bS}{r:Int⊕(Unit⊕Int)}(hQ:FQ (bG (u_ a1) (AH a1) r) Q){Ow:Int}{Ox:Bool}(hS:mM a1 Ow Ox=some r): ∀st,au [1,26,27,28] [(16,.id 16)] [] st=QG a1 Ow Ox→ZX d Q alu [] st:=by
 intro st he
 refine av he ?_
 unfold mM at hS
 refine aC (sR 28 hS (fun hS=>?_) (fun hS=>?_))
 ·exact jR (Mt hd hQ hS)
 ·exact zF (av (J:=Ec a1) (by kernel_rfl) (cX (cV (bg (jw hS hQ)))))
def tQ(a1:bS)(x:Int):Option (Int⊕(Unit⊕Int)):=(bif (decide (x<a1.bW)) then (mM a1 x true) else (mM a1 x false))
theorem XD(hd:4≤d){a1:bS}{r:Int⊕(Unit⊕Int)}(hQ:FQ (bG (u_ a1) (AH a1) r) Q){x:Int}(hS:tQ a1 x=some r)(he:u_ a1 x st):ZX d Q alv [] st:=by
 refine av he ?_
 unfold tQ at hS
 refine zS (sB 28 hS (fun hS=>?_) (fun hS=>?_))
 ·exact zK (BS hd hQ hS _ (by kernel_rfl))
 ·exact jL (BS hd hQ hS)
def ahd(a1:bS):St:=⟨(up u0 1 (pt 16)),(up h0 16 ⟨0,some (.box (sy a1))⟩)⟩
def Iw(a1:bS):Option (Int):=((b9 (tQ a1) 0).bind fun z75=>(Sum.elim (fun z76=>(some 0)) (fun TN=>(some TN)) z75))
theorem XE(hd:4≤d){a1:bS}{r:Int}(hQ:FQ (XA r) Q)(hS:Iw a1=some r): ∀st,au [1] [(16,.id 16)] [] st=ahd a1→ZX d Q alw [] st:=by
 intro st he
 refine av he ?_
 unfold Iw at hS
 refine aC (zS (zL 3 (zK (bw (aq hS (fun z75 ape hS=>dF (u_ a1) (AH a1) (fun x st r Q h0 hS hQ=>XD hd hQ hS h0) (x:=0) (z:=z75) (by show au _ _ _ _=_;kernel_rfl) ape ?_))))))
 rcases z75 with z76 | TN
 ·replace hS:=(show _=_ from hS)
  simp only [tD] at hS
  intro e bl _ hX
  obtain ⟨rfl,rfl⟩:_∧_:=hX
  exact nK hS hQ
 ·simp only [tE] at hS
  intro e bl _ hX
  obtain ⟨rfl,hX⟩:_∧_:=hX
  exact cj (bQ (bg (dW hS hQ (je (by kernel_rfl) ((congrArg (fun s=>cN s 0 Tg.res) hX).trans apb)))))
def ahe(a1:bS):St:=⟨(up u0 1 (pt 16)),(up h0 16 ⟨0,some (.box (sy a1))⟩)⟩
def Ix(a1:bS):Option (Int):=(bif (!decide ((a1.Cells.length:Int)=(IntKind.i64.wrap (a1.bR*a1.bW)))) then (some 4) else (Iw a1))
theorem XF(hd:4≤d){a1:bS}{r:Int}(hQ:FQ (XA r) Q)(hS:Ix a1=some r): ∀st,au [1] [(16,.id 16)] [] st=ahe a1→ZX d Q alx [] st:=by
 intro st he
 refine av he ?_
 unfold Ix at hS
 refine aC (zS (zL 8 (sB 24 hS (fun hS=>?_) (fun hS=>?_))))
 ·exact nL hS hQ
 ·exact jL (XE hd hQ hS)
def f57(a1:bS):Option (Int):=((f88 a1.bR a1.bW).bind fun TP=>(bif (!decide (TP=0)) then (some TP) else (Ix a1)))
theorem QH{d:Nat}(hd:4≤d){a1:bS}{r:Int}(hS:f57 a1=some r):bZ ay aX d 57 [(.agg (sy a1))] []=some ((dI r),[]):=by
 refine cI hd (fun Q hQ=>?_) aoF
 unfold f57 at hS
 show ZR _ Q aly [] _
 replace hQ:FQ (XA r) Q:=hQ
 refine zS (zL 2 (zK (aC (zS (zL 4 (aq hS (fun TP apf hS=>zC 12 (adY (aV hd rfl) apf) (zL 1 (zK (zS (zL 1 (sB 14 hS (fun hS=>?_) (fun hS=>?_)))))))))))))
 ·exact nL hS hQ
 ·exact jL (XF hd hQ hS)
/- farwriter/screen.within -/
def aAw(r:Bool)(e:PX)(st:St):Prop:=aU c58 0 ((dB r),[]) e st
def f58(a1 a2 a3:Int):Option (Bool):=(bif (decide (a2≤a1)) then (bif (decide (a1≤a3)) then (some true) else (some false)) else (some false))
theorem q8{d:Nat}(hd:1≤d){a1 a2 a3:Int}{r:Bool}(hS:f58 a1 a2 a3=some r):bZ ay aX d 58 [(dI a1),(dI a2),(dI a3)] []=some ((dB r),[]):=by
 refine cI hd (fun Q hQ=>?_) aoG
 unfold f58 at hS
 show ZR _ Q alz [] _
 replace hQ:FQ (aAw r) Q:=hQ
 refine zS (zL 1 (zK (zS (zL 2 (sB 9 hS (fun hS=>?_) (fun hS=>?_))))))
 ·refine zL 3 (sB 13 hS (fun hS=>?_) (fun hS=>?_))
  ·exact nL hS hQ
  ·exact nL hS hQ
 ·exact nL hS hQ
/- farwriter/page.Known -/
def aAx(r:Bool)(e:PX)(st:St):Prop:=aU c60 0 ((dB r),[]) e st
def f60(a1:Int):Option (Bool):=(bif (decide (1≤a1)) then (bif (decide (a1≤4)) then (some true) else (some false)) else (some false))
theorem Ee{d:Nat}(hd:1≤d){a1:Int}{r:Bool}(hS:f60 a1=some r):bZ ay aX d 60 [(dI a1)] []=some ((dB r),[]):=by
 refine cI hd (fun Q hQ=>?_) aoI
 unfold f60 at hS
 show ZR _ Q alA [] _
 replace hQ:FQ (aAx r) Q:=hQ
 refine zS (zL 1 (zK (zS (zL 1 (sB 4 hS (fun hS=>?_) (fun hS=>?_))))))
 ·refine zL 2 (sB 7 hS (fun hS=>?_) (fun hS=>?_))
  ·exact nL hS hQ
  ·exact nL hS hQ
 ·exact nL hS hQ
/- farwriter/screen.past -/
def TQ(ig:Bool):St:=⟨(up u0 2 (dB ig)),h0⟩
theorem apg{ig:Bool}:cN (TQ ig) 0 WT.res=some ((dB ig),[]):=by
 kernel_rfl
def aAy(r:Bool)(e:PX)(st:St):Prop:=aU WT 0 ((dB r),[]) e st
def ahf(a1:List bF)(x:Int):St:=⟨(up (up (up (up u0 7 (dI x)) 6 (dI (a1.length:Int))) 5 (dE bE a1)) 0 (dE bE a1)),h0⟩
def vg(a1:List bF)(x:Int)(st:St):Prop:=au [0,5,6,7] [] [] st=ahf a1 x
def Ef(a1:List bF):St:=⟨(up u0 0 (dE bE a1)),h0⟩
def AJ(a1:List bF)(z:Unit⊕Bool)(e:PX)(st:St):Prop:=(match z with | .inl z=>e= .exit 0∧st=Ef a1 | .inr z=>e= .ret∧dV WT.fin st=TQ z)
def QI(a1:List bF)(kg:Int):St:=⟨(up (up (up (up u0 7 (dI kg)) 6 (dI (a1.length:Int))) 5 (dE bE a1)) 0 (dE bE a1)),h0⟩
def sI(a1:List bF)(kg:Int):Option (Int⊕(Unit⊕Bool)):=((idx a1 kg).bind fun z7=>((f57 (bS.mk (z7.Cells.length:Int) 1 z7.Cells)).bind fun z8=>(bif (!decide (z8=0)) then (some (.inr (.inr false))) else (some (.inl (IntKind.i64.wrap (kg+1)))))))
theorem Mu(hd:5≤d){a1:List bF}{r:Int⊕(Unit⊕Bool)}(hQ:FQ (bG (vg a1) (AJ a1) r) Q){kg:Int}(hS:sI a1 kg=some r): ∀st,au [0,5,6,7] [] [] st=QI a1 kg→ZX d Q alB [] st:=by
 intro st he
 refine av he ?_
 unfold sI at hS
 refine aC (bw (zS (aq hS (fun z7 kO hS=>zO (v:=(.cD (bE.enc z7++(bE.cells (a1.drop ((kg:Int).toNat+1)))))) (aD:= []) (some 9) (.jc 111 1 (tm 5) (tm 7)) (eY bE (kk:= .i64) (xs:=a1) (j:=kg) (by kernel_rfl) (by kernel_rfl) kO rfl (by intro h;cases h)) (zL 3 (zK (zS (zL 6 (aq hS (fun z8 iW hS=>zC 17 (QH (aV hd rfl) iW) (sB 18 hS (fun hS=>?_) (fun hS=>?_))))))))))))
 ·exact zK (zT (zS (zL 1 (zK (cL (cj (bQ (bg (mG hS hQ)))))))))
 ·exact lL hS hQ
def QJ(a1:List bF)(gQ:Int)(iM:Bool):St:=⟨(up (up (up (up (up u0 8 (dB iM)) 7 (dI gQ)) 6 (dI (a1.length:Int))) 5 (dE bE a1)) 0 (dE bE a1)),h0⟩
def mN(a1:List bF)(gQ:Int)(iM:Bool):Option (Int⊕(Unit⊕Bool)):=(bif iM then (sI a1 gQ) else (some (.inr (.inl ()))))
theorem BU(hd:5≤d){a1:List bF}{r:Int⊕(Unit⊕Bool)}(hQ:FQ (bG (vg a1) (AJ a1) r) Q){gQ:Int}{iM:Bool}(hS:mN a1 gQ iM=some r): ∀st,au [0,5,6,7,8] [] [] st=QJ a1 gQ iM→ZX d Q alC [] st:=by
 intro st he
 refine av he ?_
 unfold mN at hS
 refine aC (sR 8 hS (fun hS=>?_) (fun hS=>?_))
 ·exact jR (Mu hd hQ hS)
 ·exact zF (av (J:=Ef a1) (by kernel_rfl) (cX (cV (bg (jw hS hQ)))))
def wX(a1:List bF)(x:Int):Option (Int⊕(Unit⊕Bool)):=(bif (decide (x<(a1.length:Int))) then (mN a1 x true) else (mN a1 x false))
theorem XG(hd:5≤d){a1:List bF}{r:Int⊕(Unit⊕Bool)}(hQ:FQ (bG (vg a1) (AJ a1) r) Q){x:Int}(hS:wX a1 x=some r)(he:vg a1 x st):ZX d Q alD [] st:=by
 refine av he ?_
 unfold wX at hS
 refine zS (sB 8 hS (fun hS=>?_) (fun hS=>?_))
 ·exact zK (BU hd hQ hS _ (by kernel_rfl))
 ·exact jL (BU hd hQ hS)
def f61(a1:List bF):Option (Bool):=((b9 (wX a1) 0).bind fun z9=>(Sum.elim (fun dh=>(bif (decide ((a1.length:Int)≤40)) then (some true) else (some false))) (fun cM=>(some cM)) z9))
theorem avQ{d:Nat}(hd:5≤d){a1:List bF}{r:Bool}(hS:f61 a1=some r):bZ ay aX d 61 [(dE bE a1)] []=some ((dB r),[]):=by
 refine cI hd (fun Q hQ=>?_) aoJ
 unfold f61 at hS
 show ZR _ Q alE [] _
 replace hQ:FQ (aAy r) Q:=hQ
 refine zS (zL 1 (zK (aC (zS (zL 3 (zK (bw (aq hS (fun z9 jF hS=>dF (vg a1) (AJ a1) (fun x st r Q h0 hS hQ=>XG hd hQ hS h0) (x:=0) (z:=z9) (by show au _ _ _ _=_;kernel_rfl) jF ?_)))))))))
 rcases z9 with dh | cM
 ·replace hS:=(show _=_ from hS)
  simp only [tD] at hS
  intro e bl _ hX
  obtain ⟨rfl,rfl⟩:_∧_:=hX
  refine kq (cq (zS (zL 2 (sB 22 hS (fun hS=>?_) (fun hS=>?_)))))
  ·exact nL hS hQ
  ·exact nL hS hQ
 ·simp only [tE] at hS
  intro e bl _ hX
  obtain ⟨rfl,hX⟩:_∧_:=hX
  exact cj (bQ (bg (dW hS hQ (je (by kernel_rfl) ((congrArg (fun s=>cN s 0 WT.res) hX).trans apg)))))
end
end Go.Proofs.YtimbfadnabfabaaGreatDoor.Pm
