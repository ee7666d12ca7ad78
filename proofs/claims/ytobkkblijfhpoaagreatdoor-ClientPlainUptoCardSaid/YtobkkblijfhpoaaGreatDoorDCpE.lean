/- Typed functions, and that the codes are these. Printed by dec.py. -/
import Derived.Test.YtobkkblijfhpoaaGreatDoorDCpD
namespace Go.Proofs.YtobkkblijfhpoaaGreatDoor.Pm
noncomputable section
set_option maxRecDepth 1000000
set_option maxHeartbeats 20000000
set_option linter.unusedVariables false
set_option linter.unusedSimpArgs false
variable {d : Nat} {Q : PQ} {st : St}
/- farwriter/args.Read -/
def ap6(iD:List Int):St:=⟨(up (up u0 3 (dI 0)) 2 (.r (.aI 48 0 0 iD.length))),(up h0 48 ⟨0,some (.own 3 1 (eI.cells iD))⟩)⟩
theorem ap7(iD:List Int):bA (ap6 iD) 0 c95.res=some ((.bZ [(.r (.own 0 3 1 iD.length (eI.cells iD))),(dI 0)]),[]):=by
 exact fK (ids:= []) (ids':= [48]) (l:= [(.r (.aI 48 0 0 iD.length)),(dI 0)]) (by kernel_rfl) (by kernel_rfl) (CS (aX (fU eI (e:=3) (k:=1) (xs:=iD) (by kernel_rfl) rfl rfl rfl rfl) (aX rfl nZ)))
def Y0(r:(List Int))(e:PX)(st:St):Prop:=bh c95 0 ((.bZ [(.r (.own 0 3 1 r.length (eI.cells r))),(dI 0)]),[]) e st
def ag6(a1:S8)(x:(List Int)×(List S8)×Int×Int):St:=⟨(up (up (up (up u0 38 (dI x.2.2.2)) 37 (dI x.2.2.1)) 36 (dE eu x.2.1)) 5 (.r (.aI 48 0 0 x.1.length))),(up h0 48 ⟨0,some (.own 3 1 (eI.cells x.1))⟩)⟩
def qu(a1:S8)(x:(List Int)×(List S8)×Int×Int)(st:St):Prop:=aA [5,36,37,38] [(48,.id 48)] [] st=ag6 a1 x
def E7(a1:S8)(om:List Int):St:=⟨(up u0 5 (.r (.aI 48 0 0 om.length))),(up h0 48 ⟨0,some (.own 3 1 (eI.cells om))⟩)⟩
def uT(a1:S8)(z:((List Int)))(e:PX)(st:St):Prop:=e= .exit 2∧st=E7 a1 z
def Ru(a1:S8)(Rv:List Int)(p69:S8)(p70:List S8)(p71:Int)(p72:Int):St:=⟨(up (up (up (up (up u0 38 (dI p72)) 37 (dI p71)) 36 (dE eu p70)) 7 (.d (.str p69))) 5 (.r (.aI 48 0 0 Rv.length))),(up h0 48 ⟨0,some (.own 3 1 (eI.cells Rv))⟩)⟩
def wG(a1:S8)(Rv:List Int)(p69:S8)(p70:List S8)(p71:Int)(p72:Int):Option (((List Int)×(List S8)×Int×Int)⊕(((List Int)))):=(bif (decide (0<(p69.length:Int))) then none else ((fT 8 Rv ([(-1)]:List Int)).bind fun gA=>(some (.inl (gA,p70,p71,(IntKind.i64.wrap (p72+1)))))))
theorem Nz(hd:1≤d)(a1:S8){r:((List Int)×(List S8)×Int×Int)⊕(((List Int)))}(hQ:FQ (bS (qu a1) (uT a1) r) Q)(Rv:List Int)(p69:S8)(p70:List S8)(p71:Int)(p72:Int)(hS:wG a1 Rv p69 p70 p71 p72=some r)(he:aA [5,7,36,37,38] [(48,.id 48)] [] st=Ru a1 Rv p69 p70 p71 p72):ZX d Q ame [.blk 3,.seq amf] st:=by
 refine aC he ?_
 unfold wG at hS
 refine zS (zL 1 1 (zK (ay (zS (zL 3 3 (zK ?_))))))
 refine bF (jI (zS ?_))
 refine sB 48 1 (.a_ .lss (tm 47) (tm 46)) hS (fun hS=>?_) (fun hS=>?_)
 ·cases hS
 ·refine zK (ay (zF ?_))
  refine cP (cG (cG (cQ (aq (aN (zL 3 3 ?_))))))
  refine ak hS (fun gA qM hS=>zO (v:=(.r (.aI 48 1 0 gA.length))) (aH:= [(48,⟨1,some (.own 3 1 (eI.cells gA))⟩)]) (some 64) 4 (.app 3 1 8 (tm 61) (tm 63)) (fJ eI (b:=48) (g:=0) (n:=Rv.length) (xs:=Rv) (ys:= [(-1)]) ((congrArg (gm _) (by kernel_rfl:cK _ (.tmp 63)=(.r (.aI 512 1 0 (([(-1)]:List Int).length))))).trans (en eI (e:=3) (k:=1) (xs:= [(-1)]) (by kernel_rfl) rfl rfl)) rfl (by kernel_rfl) rfl (by kernel_rfl) rfl qM) (zL 1 5 (zE ?_)))
  refine cq (aq (aN (zL 2 2 (zE ?_))))
  exact au (gC hS hQ)
def Rw(a1:S8)(zy:List Int)(q8:List S8)(E8:Int)(wH:Int):St:=⟨(up (up (up (up u0 38 (dI wH)) 37 (dI E8)) 36 (dE eu q8)) 5 (.r (.aI 48 0 0 zy.length))),(up h0 48 ⟨0,some (.own 3 1 (eI.cells zy))⟩)⟩
def wI(a1:S8)(zy:List Int)(q8:List S8)(E8:Int)(wH:Int):Option (((List Int)×(List S8)×Int×Int)⊕(((List Int)))):=((idx q8 wH).bind fun f_=>(bif (decide ((zy.length:Int)=32)) then none else (wG a1 zy f_ q8 E8 wH)))
theorem NB(hd:1≤d)(a1:S8){r:((List Int)×(List S8)×Int×Int)⊕(((List Int)))}(hQ:FQ (bS (qu a1) (uT a1) r) Q)(zy:List Int)(q8:List S8)(E8:Int)(wH:Int)(hS:wI a1 zy q8 E8 wH=some r)(he:aA [5,36,37,38] [(48,.id 48)] [] st=Rw a1 zy q8 E8 wH):ZX d Q amg [] st:=by
 refine aC he ?_
 unfold wI at hS
 refine ay (bF (zS ?_))
 refine ak hS (fun f_ nM hS=>zO (v:=(.cS (eu.enc f_++(eu.cells (q8.drop ((wH:Int).toNat+1)))))) (aH:= []) (some 40) 1 (.fQ 9 1 (tm 36) (tm 38)) (eE eu (kk:= .i64) (xs:=q8) (j:=wH) (by kernel_rfl) (by kernel_rfl) nM rfl (by intro h;cases h)) (zL 2 3 (zK (ay (zS (zL 2 2 ?_))))))
 refine sB 44 3 (ck 43 32) hS (fun hS=>?_) (fun hS=>?_)
 ·cases hS
 ·refine zK (zF ?_)
  exact aJ (aq (Nz hd a1 hQ zy f_ q8 E8 wH hS (by kernel_rfl)))
def Rx(a1:S8)(uU:List Int)(Br:List S8)(C6:Int)(C7:Int)(Hl:Bool):St:=⟨(up (up (up (up (up u0 39 (dB Hl)) 38 (dI C7)) 37 (dI C6)) 36 (dE eu Br)) 5 (.r (.aI 48 0 0 uU.length))),(up h0 48 ⟨0,some (.own 3 1 (eI.cells uU))⟩)⟩
def q9(a1:S8)(uU:List Int)(Br:List S8)(C6:Int)(C7:Int)(Hl:Bool):Option (((List Int)×(List S8)×Int×Int)⊕(((List Int)))):=(bif Hl then (wI a1 uU Br C6 C7) else (some (.inr uU)))
theorem BW(hd:1≤d)(a1:S8){r:((List Int)×(List S8)×Int×Int)⊕(((List Int)))}(hQ:FQ (bS (qu a1) (uT a1) r) Q)(uU:List Int)(Br:List S8)(C6:Int)(C7:Int)(Hl:Bool)(hS:q9 a1 uU Br C6 C7 Hl=some r)(he:aA [5,36,37,38,39] [(48,.id 48)] [] st=Rx a1 uU Br C6 C7 Hl):ZX d Q amh [] st:=by
 refine aC he ?_
 unfold q9 at hS
 refine ay (sR 39 hS (fun hS=>?_) (fun hS=>?_))
 ·exact zT (aJ (aq (NB hd a1 hQ uU Br C6 C7 hS (by kernel_rfl))))
 ·exact zF (aC (J:=E7 a1 uU) (by kernel_rfl) (cP (cG (au (iW hS hQ)))))
def wJ(a1:S8)(x:(List Int)×(List S8)×Int×Int):Option (((List Int)×(List S8)×Int×Int)⊕(((List Int)))):=(bif (decide (x.2.2.2<x.2.2.1)) then (q9 a1 x.1 x.2.1 x.2.2.1 x.2.2.2 true) else (q9 a1 x.1 x.2.1 x.2.2.1 x.2.2.2 false))
theorem Y1(hd:1≤d)(a1:S8){r:((List Int)×(List S8)×Int×Int)⊕(((List Int)))}(hQ:FQ (bS (qu a1) (uT a1) r) Q){x:(List Int)×(List S8)×Int×Int}(hS:wJ a1 x=some r)(he:qu a1 x st):ZX d Q ami [] st:=by
 refine aC he ?_
 unfold wJ at hS
 refine zS ?_
 refine sB 39 1 (.a_ .lss (tm 38) (tm 37)) hS (fun hS=>?_) (fun hS=>?_)
 ·refine zK ?_
  exact BW hd a1 hQ x.1 x.2.1 x.2.2.1 x.2.2.2 true hS (by kernel_rfl)
 ·refine zK ?_
  exact BW hd a1 hQ x.1 x.2.1 x.2.2.1 x.2.2.2 false hS (by kernel_rfl)
def aha(a1:S8):St:=⟨(up u0 0 (.d (.str a1))),h0⟩
def Jn(a1:S8):Option ((List Int)):=((ld a1 [59]).bind fun cO=>((bR (wJ a1) ([],cO,(cO.length:Int),0)).bind fun iw=>(some iw)))
theorem Y2(hd:1≤d)(a1:S8){r:(List Int)}(hQ:FQ (Y0 r) Q)(hS:Jn a1=some r)(he:aA [0] [] [] st=aha a1):ZX d Q amj [] st:=by
 refine aC he ?_
 unfold Jn at hS
 refine zS (zL 1 1 (zK (ay (zS (zL 1 1 ?_)))))
 refine ak hS (fun cO jn hS=>zO (some 36) 2 (.call 155 [(tm 35),(.const (.string ⟨#[59]⟩))]) (aW (Rq (d-1) (bO hd rfl) a1 [59] cO jn)) (zL 2 4 (zK ?_)))
 refine bF (ak hS (fun iw oQ hS=>dD (qu a1) (uT a1) (fun x st r Q h0 hS hQ=>Y1 hd a1 hQ hS h0) (x:=([],cO,(cO.length:Int),0)) (z:=iw) (by show aA _ _ _ _=_;kernel_rfl) oQ ?_))
 intro e bX _ hX
 obtain ⟨rfl,rfl⟩:_∧_:=hX
 refine cQ (aq (zS (zL 3 3 (zK ?_))))
 exact aG (au (aM hS hQ (fR (ap7 iw))))
def ahb(a1:S8)(x:Unit):St:=⟨(up (up (up u0 15 (dI 0)) 14 (dI (a1.length:Int))) 0 (.d (.str a1))),h0⟩
def uV(a1:S8)(x:Unit)(st:St):Prop:=aA [0,14,15] [] [] st=ahb a1 x
def E9(a1:S8):St:=⟨(up u0 0 (.d (.str a1))),h0⟩
def AQ(a1:S8)(z:Unit)(e:PX)(st:St):Prop:=e= .exit 0∧st=E9 a1
def Ry(a1:S8):St:=⟨(up (up (up u0 15 (dI 0)) 14 (dI (a1.length:Int))) 0 (.d (.str a1))),h0⟩
def C8(a1:S8):Option (Unit⊕Unit):=none
theorem NC(hd:1≤d)(a1:S8){r:Unit⊕Unit}(hQ:FQ (bS (uV a1) (AQ a1) r) Q)(hS:C8 a1=some r)(he:aA [0,14,15] [] [] st=Ry a1):ZX d Q amb [] st:=by
 refine aC he ?_
 unfold C8 at hS
 refine ay (bF (zS ?_))
 cases hS
def Rz(a1:S8)(p74:Bool):St:=⟨(up (up (up (up u0 16 (dB p74)) 15 (dI 0)) 14 (dI (a1.length:Int))) 0 (.d (.str a1))),h0⟩
def wK(a1:S8)(p74:Bool):Option (Unit⊕Unit):=(bif p74 then (C8 a1) else (some (.inr ())))
theorem BX(hd:1≤d)(a1:S8){r:Unit⊕Unit}(hQ:FQ (bS (uV a1) (AQ a1) r) Q)(p74:Bool)(hS:wK a1 p74=some r)(he:aA [0,14,15,16] [] [] st=Rz a1 p74):ZX d Q amc [] st:=by
 refine aC he ?_
 unfold wK at hS
 refine ay (sR 16 hS (fun hS=>?_) (fun hS=>?_))
 ·exact zT (aJ (aq (NC hd a1 hQ hS (by kernel_rfl))))
 ·exact zF (aC (J:=E9 a1) (by kernel_rfl) (cP (cG (au (iW hS hQ)))))
def Jo(a1:S8)(x:Unit):Option (Unit⊕Unit):=(bif (decide (0<(a1.length:Int))) then (wK a1 true) else (wK a1 false))
theorem Y3(hd:1≤d)(a1:S8){r:Unit⊕Unit}(hQ:FQ (bS (uV a1) (AQ a1) r) Q){x:Unit}(hS:Jo a1 x=some r)(he:uV a1 x st):ZX d Q amd [] st:=by
 refine aC he ?_
 unfold Jo at hS
 refine zS ?_
 refine sB 16 1 (.a_ .lss (tm 15) (tm 14)) hS (fun hS=>?_) (fun hS=>?_)
 ·refine zK ?_
  exact BX hd a1 hQ true hS (by kernel_rfl)
 ·refine zK ?_
  exact BX hd a1 hQ false hS (by kernel_rfl)
def ahd(a1:S8):St:=⟨(up u0 0 (.d (.str a1))),h0⟩
def Jp(a1:S8):Option ((List Int)):=((bR (Jo a1) ()).bind fun z20=>(Jn a1))
theorem Y4(hd:1≤d)(a1:S8){r:(List Int)}(hQ:FQ (Y0 r) Q)(hS:Jp a1=some r)(he:aA [0] [] [] st=ahd a1):ZX d Q abZ [] st:=by
 refine aC he ?_
 unfold Jp at hS
 refine ay (zS (zL 3 3 (zK ?_)))
 refine bF (ak hS (fun z20 oO hS=>dD (uV a1) (AQ a1) (fun x st r Q h0 hS hQ=>Y3 hd a1 hQ hS h0) (x:=()) (z:=z20) (by show aA _ _ _ _=_;kernel_rfl) oO ?_))
 intro e bX _ hX
 obtain ⟨rfl,rfl⟩:_∧_:=hX
 exact cQ (aq (Y2 hd a1 hQ hS (by kernel_rfl)))
def f95(a1:S8):Option ((List Int)):=((oN a1 [48,49,50,51,52,53,54,55,56,57,59]).bind fun z21=>(bif (!decide (z21=([]:S8))) then none else (Jp a1)))
theorem auX(d:Nat)(hd:1≤d)(a1:S8)(r:(List Int))(hS:f95 a1=some r):cg az bE d 95 [(.d (.str a1))] []=some ((.bZ [(.r (.own 0 3 1 r.length (eI.cells r))),(dI 0)]),[]):=by
 refine dN hd (fun Q hQ=>?_) apk
 unfold f95 at hS
 show ZR _ Q amk [] _
 replace hQ:FQ (Y0 r) Q:=hQ
 refine zS (zL 2 2 (zK (ay (zS (zL 1 1 ?_)))))
 refine ak hS (fun z21 qY hS=>zO (some 11) 2 (.call 154 [(tm 10),(.const (.string ⟨#[48,49,50,51,52,53,54,55,56,57,59]⟩))]) (aW (Vs (d-1) (bO hd rfl) a1 [48,49,50,51,52,53,54,55,56,57,59] z21 qY)) (sB 12 3 (.lI .neq (tm 11) (.const (.string ⟨#[]⟩))) hS (fun hS=>?_) (fun hS=>?_)))
 ·cases hS
 ·refine zK (zF ?_)
  exact aJ (aq (Y4 hd a1 hQ hS (by kernel_rfl)))
/- farwriter/parse.within -/
def ap8(p3:Bool):St:=⟨(up u0 6 (dB p3)),h0⟩
theorem LS(p3:Bool):bA (ap8 p3) 0 c96.res=some ((dB p3),[]):=by
 kernel_rfl
def ayN(r:Bool)(e:PX)(st:St):Prop:=bh c96 0 ((dB r),[]) e st
def f96(a1:Int)(a2:Int)(a3:Int):Option (Bool):=(bif (decide (a2≤a1)) then (bif (decide (a1≤a3)) then (some true) else (some false)) else (some false))
theorem RA(d:Nat)(hd:1≤d)(a1:Int)(a2:Int)(a3:Int)(r:Bool)(hS:f96 a1 a2 a3=some r):cg az bE d 96 [(dI a1),(dI a2),(dI a3)] []=some ((dB r),[]):=by
 refine dN hd (fun Q hQ=>?_) apl
 unfold f96 at hS
 show ZR _ Q amm [] _
 replace hQ:FQ (ayN r) Q:=hQ
 refine zS (zL 1 1 (zK (zS (zL 2 2 ?_))))
 refine sB 9 3 (.a_ .geq (tm 7) (tm 8)) hS (fun hS=>?_) (fun hS=>?_)
 ·refine zL 3 6 (sH 13 7 10 true (.a_ .leq (tm 11) (tm 12)) hS (fun hS=>?_) (fun hS=>?_))
  ·refine zL 2 9 (zK ?_)
   exact aG (au (aM hS hQ (fR (LS true))))
  ·refine zL 2 9 (zK ?_)
   exact aG (au (aM hS hQ (fR (LS false))))
 ·refine zL 6 9 (zK ?_)
  exact aG (au (aM hS hQ (fR (LS false))))
/- farwriter/parse.inters -/
def Vt(p9:Bool):St:=⟨(up u0 4 (dB p9)),h0⟩
theorem LU(p9:Bool):bA (Vt p9) 0 Yu.res=some ((dB p9),[]):=by
 kernel_rfl
def ayO(r:Bool)(e:PX)(st:St):Prop:=bh Yu 0 ((dB r),[]) e st
def ahe(a1:S8)(a2:Int)(x:Int):St:=⟨(up (up (up (up u0 8 (dI x)) 7 (dI (a1.length:Int))) 1 (dI a2)) 0 (.d (.str a1))),h0⟩
def uW(a1:S8)(a2:Int)(x:Int)(st:St):Prop:=aA [0,1,7,8] [] [] st=ahe a1 a2 x
def E_(a1:S8)(a2:Int):St:=⟨(up (up u0 1 (dI a2)) 0 (.d (.str a1))),h0⟩
def AR(a1:S8)(a2:Int)(z:Unit⊕Bool)(e:PX)(st:St):Prop:=(match z with | .inl z=>e= .exit 0∧st=E_ a1 a2 | .inr z=>e= .ret∧dZ Yu.fin st=Vt z)
def RB(a1:S8)(a2:Int)(j7:Int):St:=⟨(up (up (up (up u0 8 (dI j7)) 7 (dI (a1.length:Int))) 1 (dI a2)) 0 (.d (.str a1))),h0⟩
def C9(a1:S8)(a2:Int)(j7:Int):Option (Int⊕(Unit⊕Bool)):=((idx a1 j7).bind fun z7=>((f96 (z7.toNat:Int) 32 47).bind fun z8=>(bif (!z8) then (some (.inr (.inr false))) else (some (.inl (IntKind.i64.wrap (j7+1)))))))
theorem ND(hd:2≤d)(a1:S8)(a2:Int){r:Int⊕(Unit⊕Bool)}(hQ:FQ (bS (uW a1 a2) (AR a1 a2) r) Q)(j7:Int)(hS:C9 a1 a2 j7=some r)(he:aA [0,1,7,8] [] [] st=RB a1 a2 j7):ZX d Q amo [] st:=by
 refine aC he ?_
 unfold C9 at hS
 refine ay (bF (zS (zL 2 2 (zK (zS (zL 2 2 ?_))))))
 refine ak hS (fun z7 tW hS=>zO (v:=(.d (.int .u8 (z7.toNat:Int)))) (aH:= []) (some 13) 3 (.j9 (tm 11) (tm 12)) (jk (kk:= .i64) (s:=a1) (j:=j7) (by kernel_rfl) (by kernel_rfl) tW) (zO (v:=(dI (z7.toNat:Int))) (aH:= []) (some 14) 4 (.xY .i64 (tm 13)) (yD (kk:= .u8) (a:=(z7.toNat:Int)) (by kernel_rfl) (AB _)) (ak hS (fun z8 wC hS=>zO (some 15) 5 (.call 96 [(tm 14),(ki 32),(ki 47)]) (aW (RA (d-1) (bO hd rfl) (z7.toNat:Int) 32 47 z8 wC)) (zL 1 6 (zK ?_))))))
 refine sR 16 hS (fun hS=>?_) (fun hS=>?_)
 ·refine zT (zS (zL 1 1 (zK ?_)))
  exact aG (cU (bD (au (xU hS hQ))))
 ·refine zF (aJ (cq (aq (aN (zL 2 2 (zE ?_))))))
  exact au (gC hS hQ)
def RF(a1:S8)(a2:Int)(eG:Int)(fE:Bool):St:=⟨(up (up (up (up (up u0 9 (dB fE)) 8 (dI eG)) 7 (dI (a1.length:Int))) 1 (dI a2)) 0 (.d (.str a1))),h0⟩
def wL(a1:S8)(a2:Int)(eG:Int)(fE:Bool):Option (Int⊕(Unit⊕Bool)):=(bif fE then (C9 a1 a2 eG) else (some (.inr (.inl ()))))
theorem BZ(hd:2≤d)(a1:S8)(a2:Int){r:Int⊕(Unit⊕Bool)}(hQ:FQ (bS (uW a1 a2) (AR a1 a2) r) Q)(eG:Int)(fE:Bool)(hS:wL a1 a2 eG fE=some r)(he:aA [0,1,7,8,9] [] [] st=RF a1 a2 eG fE):ZX d Q amp [] st:=by
 refine aC he ?_
 unfold wL at hS
 refine ay (sR 9 hS (fun hS=>?_) (fun hS=>?_))
 ·exact zT (aJ (aq (ND hd a1 a2 hQ eG hS (by kernel_rfl))))
 ·exact zF (aC (J:=E_ a1 a2) (by kernel_rfl) (cP (cG (au (iW hS hQ)))))
def RG(a1:S8)(a2:Int)(x:Int):Option (Int⊕(Unit⊕Bool)):=(bif (decide (x<(a1.length:Int))) then (wL a1 a2 x true) else (wL a1 a2 x false))
theorem Y5(hd:2≤d)(a1:S8)(a2:Int){r:Int⊕(Unit⊕Bool)}(hQ:FQ (bS (uW a1 a2) (AR a1 a2) r) Q){x:Int}(hS:RG a1 a2 x=some r)(he:uW a1 a2 x st):ZX d Q amq [] st:=by
 refine aC he ?_
 unfold RG at hS
 refine zS ?_
 refine sB 9 1 (.a_ .lss (tm 8) (tm 7)) hS (fun hS=>?_) (fun hS=>?_)
 ·refine zK ?_
  exact BZ hd a1 a2 hQ x true hS (by kernel_rfl)
 ·refine zK ?_
  exact BZ hd a1 a2 hQ x false hS (by kernel_rfl)
def f97(a1:S8)(a2:Int):Option (Bool):=((bR (RG a1 a2) 0).bind fun z9=>(Sum.elim (fun cO=>(bif (decide ((a1.length:Int)≤a2)) then (some true) else (some false))) (fun eJ=>(some eJ)) z9))
theorem auY(d:Nat)(hd:2≤d)(a1:S8)(a2:Int)(r:Bool)(hS:f97 a1 a2=some r):cg az bE d 97 [(.d (.str a1)),(dI a2)] []=some ((dB r),[]):=by
 refine dN hd (fun Q hQ=>?_) apm
 unfold f97 at hS
 show ZR _ Q amr [] _
 replace hQ:FQ (ayO r) Q:=hQ
 refine zS (zL 1 1 (zK (ay (zS (zL 3 3 (zK ?_))))))
 refine bF (ak hS (fun z9 zx hS=>dD (uW a1 a2) (AR a1 a2) (fun x st r Q h0 hS hQ=>Y5 hd a1 a2 hQ hS h0) (x:=0) (z:=z9) (by show aA _ _ _ _=_;kernel_rfl) zx ?_))
 rcases z9 with cO | eJ
 ·replace hS:=(show _=_ from hS)
  simp only [IJ] at hS
  intro e bX _ hX
  obtain ⟨rfl,rfl⟩:_∧_:=hX
  refine cQ (aq (zS (zL 3 3 ?_)))
  refine sB 21 4 (.a_ .leq (tm 19) (tm 20)) hS (fun hS=>?_) (fun hS=>?_)
  ·refine zL 1 5 (zK ?_)
   exact aG (au (aM hS hQ (fR (LU true))))
  ·refine zL 1 5 (zK ?_)
   exact aG (au (aM hS hQ (fR (LU false))))
 ·simp only [IK] at hS
  intro e bX _ hX
  obtain ⟨rfl,hX⟩:_∧_:=hX
  exact cU (bD (au (aM hS hQ (ko (by kernel_rfl) ((congrArg (fun s=>bA s 0 Yu.res) hX).trans (LU eJ))))))
/- farwriter/parse.Check -/
def ap9:St:=⟨(up u0 2 (dI 0)),h0⟩
theorem ap_:bA (ap9) 0 c54.res=some ((dI 0),[]):=by
 kernel_rfl
def aqa(r:Unit)(e:PX)(st:St):Prop:=bh c54 0 ((dI 0),[]) e st
def ahf(a1:bH)(p3:Bool):St:=⟨(up (up (up u0 6 (dB p3)) 5 (dI 0)) 1 (pt 16)),(up h0 16 ⟨0,some (.box (qW a1))⟩)⟩
def Fa(a1:bH)(p3:Bool):Option (Unit):=(bif p3 then (bif (decide ((a1.Args.length:Int)≤100)) then (bif (decide (a1.Args=([]:S8))) then (bif (decide ((a1.Text.length:Int)≤256)) then (bif (decide (a1.Text=([]:S8))) then (some ()) else none) else none) else none) else none) else none)
theorem LV(hd:3≤d)(a1:bH){r:Unit}(hQ:FQ (aqa r) Q)(p3:Bool)(hS:Fa a1 p3=some r)(he:aA [1,5,6] [(16,.id 16)] [] st=ahf a1 p3):ZX d Q ams [] st:=by
 refine aC he ?_
 unfold Fa at hS
 refine zS (zL 2 2 ?_)
 refine sL 59 hS (fun hS=>?_) (fun hS=>?_)
 ·refine zL 7 9 (sH 67 10 63 true (.a_ .leq (tm 66) (ki 100)) hS (fun hS=>?_) (fun hS=>?_))
  ·refine zL 4 14 (sH 72 15 69 true (.lI .eql (tm 71) (.const (.string ⟨#[]⟩))) hS (fun hS=>?_) (fun hS=>?_))
   ·refine zL 12 27 (zK (zS (zL 5 5 ?_)))
    refine sH 89 6 85 true (.a_ .leq (tm 88) (ki 256)) hS (fun hS=>?_) (fun hS=>?_)
    ·refine zL 4 10 (sH 94 11 91 true (.lI .eql (tm 93) (.const (.string ⟨#[]⟩))) hS (fun hS=>?_) (fun hS=>?_))
     ·refine zL 12 23 (zK (ay (zS (zL 2 2 (zK (zF ?_))))))
      refine aJ (aq (zS (zL 1 1 (zK ?_))))
      exact aG (au (aM hS hQ (fR (ap_))))
     ·refine zL 3 14 ?_
      cases hS
    ·refine zL 4 10 ?_
     cases hS
   ·refine zL 3 18 ?_
    cases hS
  ·refine zL 4 14 ?_
   cases hS
 ·refine zL 1 3 ?_
  cases hS
def f54(a1:bH):Option (Unit):=(bif (decide (a1.State=2)) then none else (bif (decide (a1.State=5)) then none else ((f95 a1.Args).bind fun z4=>((f96 a1.State 0 10).bind fun z5=>(bif z5 then (bif (decide (a1.Mark=0)) then ((f97 a1.Inter 3).bind fun z7=>(bif z7 then (bif (!decide (a1.Inter=([]:S8))) then (Fa a1 false) else (Fa a1 true)) else none)) else none) else none)))))
theorem ad4(d:Nat)(hd:3≤d)(a1:bH)(r:Unit)(hS:f54 a1=some r):cg az bE d 54 [(.agg (qW a1))] []=some ((dI 0),[]):=by
 refine dN hd (fun Q hQ=>?_) ao4
 unfold f54 at hS
 show ZR _ Q amt [] _
 replace hQ:FQ (aqa r) Q:=hQ
 refine zS (zL 2 2 (zK (zS (zL 2 2 ?_))))
 refine sB 9 3 (ck 8 2) hS (fun hS=>?_) (fun hS=>?_)
 ·cases hS
 ·refine zL 3 6 (sH 13 7 10 false (ck 12 5) hS (fun hS=>?_) (fun hS=>?_))
  ·cases hS
  ·refine zL 2 9 (zK (zS (zL 2 2 ?_)))
   refine ak hS (fun z4 jR hS=>zO (some 18) 3 (c1 95 17) (aW (auX (d-1) (bO hd rfl) a1.Args z4 jR)) (zL 5 8 (zK (zS (zL 2 2 ?_)))))
   refine ak hS (fun z5 tV hS=>zO (some 23) 3 (.call 96 [(tm 22),(ki 0),(ki 10)]) (aW (RA (d-1) (bO hd rfl) a1.State 0 10 z5 tV)) (zL 1 4 (zK (zS (zL 2 2 ?_)))))
   refine sL 25 hS (fun hS=>?_) (fun hS=>?_)
   ·refine zL 2 4 (sH 28 5 25 true (ck 27 0) hS (fun hS=>?_) (fun hS=>?_))
    ·refine zL 17 22 (zK (zS (zL 4 4 ?_)))
     refine ak hS (fun z7 tW hS=>zG (some 49) 5 46 true (.call 97 [(tm 48),(ki 3)]) (aW (auY (d-1) (bO hd rfl) a1.Inter 3 z7 tW)) (zL 2 7 (sL 51 hS (fun hS=>?_) (fun hS=>?_))))
     ·refine zL 2 9 (sH 54 10 51 true (.lI .neq (tm 53) (.const (.string ⟨#[]⟩))) hS (fun hS=>?_) (fun hS=>?_))
      ·refine zL 4 14 (zK ?_)
       exact LV hd a1 hQ false hS (by kernel_rfl)
      ·refine zL 4 14 (zK ?_)
       exact LV hd a1 hQ true hS (by kernel_rfl)
     ·refine zL 2 9 ?_
      cases hS
    ·refine zL 3 8 ?_
     cases hS
   ·refine zL 2 4 ?_
    cases hS
/- farwriter/grid.row -/
def Vu(p1:List aa):St:=⟨(up (up u0 2000000 .un) 4 (dE ag p1)),(up h0 0 ⟨0,none⟩)⟩
theorem aqb(p1:List aa):bA (Vu p1) 0 Q5.res=some ((dE ag p1),[]):=by
 kernel_rfl
def ayP(r:(List aa))(e:PX)(st:St):Prop:=bh Q5 0 ((dE ag r),[.box []]) e st
def f38(a1:aV)(a2:Int):Option ((List aa)):=((ni a1.Cells (IntKind.i64.wrap (a2*a1.bV)) (IntKind.i64.wrap ((IntKind.i64.wrap (a2+1))*a1.bV))).bind fun z2=>(some z2))
theorem ad5(d:Nat)(hd:1≤d)(a1:aV)(a2:Int)(r:(List aa))(hS:f38 a1 a2=some r):cg az bE d 38 [(.agg (iZ a1)),(dI a2)] []=some ((dE ag r),[.box []]):=by
 refine dN hd (fun Q hQ=>?_) Ve
 unfold f38 at hS
 show ZR _ Q Yv [] _
 replace hQ:FQ (ayP r) Q:=hQ
 refine zS (zL 2 2 (zK (zS (zL 11 11 ?_))))
 refine ak hS (fun z2 hz2 hS=>zO (v:=(dE ag z2)) (aH:= []) (some 16) 12 (.tD 100 4 (tm 6) (.some (tm 10)) (.some (tm 15))) (I7 ag (xs:=a1.Cells) (a:=(IntKind.i64.wrap (a2*a1.bV))) (c:=(IntKind.i64.wrap ((IntKind.i64.wrap (a2+1))*a1.bV))) (by kernel_rfl) rfl (jQ _ (kk:= .i64) (j:=(IntKind.i64.wrap (a2*a1.bV))) (by kernel_rfl)) (jQ _ (kk:= .i64) (j:=(IntKind.i64.wrap ((IntKind.i64.wrap (a2+1))*a1.bV))) (by kernel_rfl)) hz2) (zL 1 13 (zK ?_)))
 exact aG (au (aM hS hQ (XG (by kernel_rfl) (by kernel_rfl:dZ Q5.fin _=Vu z2) (by kernel_rfl) (aqb z2))))
/- farwriter/width.in -/
def Pn(iD:Bool):St:=⟨(up u0 4 (dB iD)),h0⟩
theorem Po(iD:Bool):bA (Pn iD) 0 LH.res=some ((dB iD),[]):=by
 kernel_rfl
def auZ(r:Bool)(e:PX)(st:St):Prop:=bh LH 0 ((dB r),[]) e st
def Y6(a1:Int)(a2:List (Int×Int))(x:Int):St:=⟨(up (up (up (up u0 9 (dI x)) 8 (dI (a2.length:Int))) 7 (dE ku a2)) 0 (dI a1)),h0⟩
def ri(a1:Int)(a2:List (Int×Int))(x:Int)(st:St):Prop:=aA [0,7,8,9] [] [] st=Y6 a1 a2 x
def B0(a1:Int)(a2:List (Int×Int)):St:=⟨u0,h0⟩
def wM(a1:Int)(a2:List (Int×Int))(z:Unit⊕Bool)(e:PX)(st:St):Prop:=(match z with | .inl z=>e= .exit 0∧st=B0 a1 a2 | .inr z=>e= .ret∧dZ LH.fin st=Pn z)
def NF(a1:Int)(a2:List (Int×Int))(h_:Int):St:=⟨(up (up (up (up u0 9 (dI h_)) 8 (dI (a2.length:Int))) 7 (dE ku a2)) 0 (dI a1)),h0⟩
def o7(a1:Int)(a2:List (Int×Int))(h_:Int):Option (Int⊕(Unit⊕Bool)):=((idx a2 h_).bind fun z4=>(bif (decide (z4.1≤a1)) then (bif (decide (a1≤z4.2)) then (some (.inr (.inr true))) else (some (.inl (IntKind.i64.wrap (h_+1))))) else (some (.inl (IntKind.i64.wrap (h_+1))))))
theorem LW(hd:1≤d)(a1:Int)(a2:List (Int×Int)){r:Int⊕(Unit⊕Bool)}(hQ:FQ (bS (ri a1 a2) (wM a1 a2) r) Q)(h_:Int)(hS:o7 a1 a2 h_=some r)(he:aA [0,7,8,9] [] [] st=NF a1 a2 h_):ZX d Q ab0 [] st:=by
 refine aC he ?_
 unfold o7 at hS
 refine ay (bF (zS ?_))
 refine ak hS (fun z4 jR hS=>zO (v:=(.cS (ku.enc z4++(ku.cells (a2.drop ((h_:Int).toNat+1)))))) (aH:= []) (some 11) 1 (.fQ 39 2 (tm 7) (tm 9)) (eE ku (kk:= .i64) (xs:=a2) (j:=h_) (by kernel_rfl) (by kernel_rfl) jR rfl (by intro h;cases h)) (zL 3 4 (zK (zS (zL 3 3 ?_)))))
 refine sB 16 4 (.a_ .geq (tm 13) (tm 15)) hS (fun hS=>?_) (fun hS=>?_)
 ·refine zL 4 8 (sH 21 9 17 true (.a_ .leq (tm 18) (tm 20)) hS (fun hS=>?_) (fun hS=>?_))
  ·refine zL 1 10 (zK (zT (zS (zL 1 1 (zK ?_)))))
   exact aG (cU (bD (au (xU hS hQ))))
  ·refine zL 1 10 (zK (zF ?_))
   refine aJ (cq (aq (aN (zL 2 2 (zE ?_)))))
   exact au (gC hS hQ)
 ·refine zL 6 10 (zK (zF ?_))
  refine aJ (cq (aq (aN (zL 2 2 (zE ?_)))))
  exact au (gC hS hQ)
def NG(a1:Int)(a2:List (Int×Int))(o8:Int)(lV:Bool):St:=⟨(up (up (up (up (up u0 10 (dB lV)) 9 (dI o8)) 8 (dI (a2.length:Int))) 7 (dE ku a2)) 0 (dI a1)),h0⟩
def kJ(a1:Int)(a2:List (Int×Int))(o8:Int)(lV:Bool):Option (Int⊕(Unit⊕Bool)):=(bif lV then (o7 a1 a2 o8) else (some (.inr (.inl ()))))
theorem zA(hd:1≤d)(a1:Int)(a2:List (Int×Int)){r:Int⊕(Unit⊕Bool)}(hQ:FQ (bS (ri a1 a2) (wM a1 a2) r) Q)(o8:Int)(lV:Bool)(hS:kJ a1 a2 o8 lV=some r)(he:aA [0,7,8,9,10] [] [] st=NG a1 a2 o8 lV):ZX d Q ab1 [] st:=by
 refine aC he ?_
 unfold kJ at hS
 refine ay (sR 10 hS (fun hS=>?_) (fun hS=>?_))
 ·exact zT (aJ (aq (LW hd a1 a2 hQ o8 hS (by kernel_rfl))))
 ·exact zF (aC (J:=B0 a1 a2) (by kernel_rfl) (cP (cG (au (iW hS hQ)))))
def rj(a1:Int)(a2:List (Int×Int))(x:Int):Option (Int⊕(Unit⊕Bool)):=(bif (decide (x<(a2.length:Int))) then (kJ a1 a2 x true) else (kJ a1 a2 x false))
theorem Vv(hd:1≤d)(a1:Int)(a2:List (Int×Int)){r:Int⊕(Unit⊕Bool)}(hQ:FQ (bS (ri a1 a2) (wM a1 a2) r) Q){x:Int}(hS:rj a1 a2 x=some r)(he:ri a1 a2 x st):ZX d Q ab2 [] st:=by
 refine aC he ?_
 unfold rj at hS
 refine zS ?_
 refine sB 10 1 (.a_ .lss (tm 9) (tm 8)) hS (fun hS=>?_) (fun hS=>?_)
 ·refine zK ?_
  exact zA hd a1 a2 hQ x true hS (by kernel_rfl)
 ·refine zK ?_
  exact zA hd a1 a2 hQ x false hS (by kernel_rfl)
def f194(a1:Int)(a2:List (Int×Int)):Option (Bool):=((bR (rj a1 a2) 0).bind fun z5=>(Sum.elim (fun z6=>(some false)) (fun z7=>(some z7)) z5))
theorem Vw(d:Nat)(hd:1≤d)(a1:Int)(a2:List (Int×Int))(r:Bool)(hS:f194 a1 a2=some r):cg az bE d 194 [(dI a1),(dE ku a2)] []=some ((dB r),[]):=by
 refine dN hd (fun Q hQ=>?_) agl
 unfold f194 at hS
 show ZR _ Q ab3 [] _
 replace hQ:FQ (auZ r) Q:=hQ
 refine zS (zL 1 1 (zK (ay (zS (zL 3 3 (zK ?_))))))
 refine bF (ak hS (fun z5 tV hS=>dD (ri a1 a2) (wM a1 a2) (fun x st r Q h0 hS hQ=>Vv hd a1 a2 hQ hS h0) (x:=0) (z:=z5) (by show aA _ _ _ _=_;kernel_rfl) tV ?_))
 rcases z5 with z6 | z7
 ·replace hS:=(show _=_ from hS)
  simp only [IJ] at hS
  intro e bX _ hX
  obtain ⟨rfl,rfl⟩:_∧_:=hX
  refine cQ (aq (zS (zL 1 1 (zK ?_))))
  exact aG (au (aM hS hQ (fR (Po false))))
 ·simp only [IK] at hS
  intro e bX _ hX
  obtain ⟨rfl,hX⟩:_∧_:=hX
  exact cU (bD (au (aM hS hQ (ko (by kernel_rfl) ((congrArg (fun s=>bA s 0 LH.res) hX).trans (Po z7))))))
/- farwriter/width.Of -/
def ahg(p2:Int):St:=⟨(up u0 2 (dI p2)),h0⟩
theorem Ho(p2:Int):bA (ahg p2) 0 UB.res=some ((dI p2),[]):=by
 kernel_rfl
def ad6(r:Int)(e:PX)(st:St):Prop:=bh UB 0 ((dI r),[]) e st
def Y7(a1:Int)(p4:Bool):St:=⟨(up (up (up u0 25 (dB p4)) 4 (pt 40)) 0 (dI a1)),(up h0 40 ⟨0,some (.box ((ku.row 12 (fun i=>([(4352,4447),(11904,12350),(12353,19903),(19968,42191),(44032,55203),(63744,64255),(65072,65135),(65280,65376),(65504,65510),(127744,128591),(129280,129535),(131072,262141)]:List (Int×Int)).getD i (0,0)))++ []))⟩)⟩
def uX(a1:Int)(p4:Bool):Option (Int):=(bif p4 then (some 0) else ((f194 a1 [(4352,4447),(11904,12350),(12353,19903),(19968,42191),(44032,55203),(63744,64255),(65072,65135),(65280,65376),(65504,65510),(127744,128591),(129280,129535),(131072,262141)]).bind fun z4=>(bif z4 then (some 2) else (some 1))))
theorem zB(hd:2≤d)(a1:Int){r:Int}(hQ:FQ (ad6 r) Q)(p4:Bool)(hS:uX a1 p4=some r)(he:aA [0,4,25] [(40,.id 40)] [] st=Y7 a1 p4):ZX d Q ab4 [.blk 0,.seq ab5] st:=by
 refine aC he ?_
 unfold uX at hS
 refine sR 25 hS (fun hS=>?_) (fun hS=>?_)
 ·refine zT (zS (zL 1 1 (zK ?_)))
  exact aG (cU (bD (au (aM hS hQ (fR (Ho 0))))))
 ·refine zF (zS (zL 2 2 ?_))
  refine ak hS (fun z4 jR hS=>zO (some 40) 3 (.call 194 [(tm 38),(tm 39)]) (aW (Vw (d-1) (bO hd rfl) a1 [(4352,4447),(11904,12350),(12353,19903),(19968,42191),(44032,55203),(63744,64255),(65072,65135),(65280,65376),(65504,65510),(127744,128591),(129280,129535),(131072,262141)] z4 jR)) (zL 1 4 (zK ?_)))
  refine sR 37 hS (fun hS=>?_) (fun hS=>?_)
  ·refine zT (zS (zL 1 1 (zK ?_)))
   exact aG (cU (bD (au (aM hS hQ (fR (Ho 2))))))
  ·refine zF (aJ (cq (aq (zS (zL 1 1 (zK ?_))))))
   exact aG (au (aM hS hQ (fR (Ho 1))))
def f146(a1:Int):Option (Int):=(bif (decide (a1<0)) then (uX a1 true) else (bif (decide (1114111<a1)) then (uX a1 true) else ((f194 a1 [(0,31),(127,159),(768,879),(8203,8207),(55296,57343),(65024,65039)]).bind fun z5=>(uX a1 z5))))
theorem zC(d:Nat)(hd:2≤d)(a1:Int)(r:Int)(hS:f146 a1=some r):cg az bE d 146 [(dI a1)] []=some ((dI r),[]):=by
 refine dN hd (fun Q hQ=>?_) af7
 unfold f146 at hS
 show ZR _ Q ab6 [] _
 replace hQ:FQ (ad6 r) Q:=hQ
 refine zS (zL 1 1 (zK (zS (zL 9 9 (zK (zS (zL 15 15 (zK (ay ?_)))))))))
 refine bF (zS (zL 1 1 ?_))
 refine sB 27 2 (.a_ .lss (tm 26) (ki 0)) hS (fun hS=>?_) (fun hS=>?_)
 ·refine zL 10 12 (zK ?_)
  exact zB hd a1 hQ true hS (by kernel_rfl)
 ·refine zL 2 4 (sH 30 5 28 false (.a_ .gtr (tm 29) (ki 1114111)) hS (fun hS=>?_) (fun hS=>?_))
  ·refine zL 7 12 (zK ?_)
   exact zB hd a1 hQ true hS (by kernel_rfl)
  ·refine zL 4 9 (ak hS (fun z5 tV hS=>zG (some 35) 10 32 false (.call 194 [(tm 33),(tm 34)]) (aW (Vw (d-1) (bO hd rfl) a1 [(0,31),(127,159),(768,879),(8203,8207),(55296,57343),(65024,65039)] z5 tV)) (zL 2 12 (zK ?_))))
   exact zB hd a1 hQ z5 hS (by kernel_rfl)
/- farwriter/grid.lone$1 -/
def ahh(p4:Bool):St:=⟨(up u0 3 (dB p4)),h0⟩
theorem AU(p4:Bool):bA (ahh p4) 0 UC.res=some ((dB p4),[]):=by
 kernel_rfl
def au0(r:Bool)(e:PX)(st:St):Prop:=bh UC 0 ((dB r),[]) e st
def f195(a1:Int)(a2:List aa)(a3:List PD):Option (Bool):=(bif (decide (a1<(a2.length:Int))) then ((idx a2 a1).bind fun z4=>(bif (decide (z4.cW=0)) then ((idx a2 a1).bind fun z5=>((idx a2 (IntKind.i64.wrap (a1-1))).bind fun z6=>(bif (decide (z5.bM.Flags=z6.bM.Flags)&&(decide (z5.bM.cz=z6.bM.cz)&&(decide (z5.bM.b9=z6.bM.b9)&&true))) then (some true) else (some false)))) else (some false))) else (some false))
theorem Vx(d:Nat)(hd:1≤d)(a1:Int)(a2:List aa)(a3:List PD)(r:Bool)(hS:f195 a1 a2 a3=some r):cg az bE d 195 [(dI a1),(.cS ((d_ ag).enc a2++a3))] []=some ((dB r),[]):=by
 refine dN hd (fun Q hQ=>?_) agm
 unfold f195 at hS
 show ZR _ Q ab7 [] _
 replace hQ:FQ (au0 r) Q:=hQ
 refine zS (zL 1 1 (zK (ay ?_)))
 refine ez (dx 3 3 (D6 7 4 none (.a_ .lss (tm 4) (tm 6)) hS (fun hS=>?_) (fun hS=>?_)))
 ·refine dx 3 7 (ak hS (fun z4 jR hS=>eT (v:=(.cS (ag.enc z4++(ag.cells (a2.drop ((a1:Int).toNat+1)))))) (aH:= []) (some 11) 8 (some (8,true)) (.fQ 100 4 (tm 9) (tm 10)) (eE ag (kk:= .i64) (xs:=a2) (j:=a1) (by kernel_rfl) (by kernel_rfl) jR rfl (by intro h;cases h)) (dx 2 10 (D6 14 11 (some (8,true)) (ck 13 0) hS (fun hS=>?_) (fun hS=>?_)))))
  ·refine dx 4 15 (ak hS (fun z5 tV hS=>eT (v:=(.cS (ag.enc z5++(ag.cells (a2.drop ((a1:Int).toNat+1)))))) (aH:= []) (some 19) 16 (some (16,true)) (.fQ 100 4 (tm 17) (tm 18)) (eE ag (kk:= .i64) (xs:=a2) (j:=a1) (by kernel_rfl) (by kernel_rfl) tV rfl (by intro h;cases h)) (dx 5 21 (ak hS (fun z6 zw hS=>eT (v:=(.cS (ag.enc z6++(ag.cells (a2.drop (((IntKind.i64.wrap (a1-1)):Int).toNat+1)))))) (aH:= []) (some 25) 22 (some (16,true)) (.fQ 100 4 (tm 22) (tm 24)) (eE ag (kk:= .i64) (xs:=a2) (j:=(IntKind.i64.wrap (a1-1))) (by kernel_rfl) (by kernel_rfl) zw rfl (by intro h;cases h)) (dx 2 24 (D6 28 25 (some (16,true)) (.CD .false [(3,.int)] (tm 21) (tm 27)) hS (fun hS=>?_) (fun hS=>?_))))))))
   ·exact dx 2 27 (iC (aq (aG (au (aM hS hQ (fR (AU true)))))))
   ·exact dx 2 27 (iC (aq (aG (au (aM hS hQ (fR (AU false)))))))
  ·exact dx 16 27 (iC (aq (aG (au (aM hS hQ (fR (AU false)))))))
 ·exact dx 23 27 (iC (aq (aG (au (aM hS hQ (fR (AU false)))))))
/- farwriter/grid.lone -/
def ahi(p4:Bool):St:=⟨(up u0 4 (dB p4)),h0⟩
theorem uY(p4:Bool):bA (ahi p4) 0 UD.res=some ((dB p4),[]):=by
 kernel_rfl
def ad7(r:Bool)(e:PX)(st:St):Prop:=bh UD 0 ((dB r),[]) e st
def Y8(a1:List aa)(a2:Int):St:=⟨(up (up (up u0 5 (.fn 195 [(pt 24)])) 2 (pt 24)) 1 (dI a2)),(up h0 24 ⟨0,some (.box ((dE ag a1):: []))⟩)⟩
def Fb(a1:List aa)(a2:Int):Option (Bool):=((idx a1 a2).bind fun z12=>((f146 z12.cW).bind fun fu=>(bif (decide (fu=2)) then ((f195 (IntKind.i64.wrap (a2+1)) a1 []).bind fun mU=>(some (!mU))) else (some false))))
theorem Vy(hd:3≤d)(a1:List aa)(a2:Int){r:Bool}(hQ:FQ (ad7 r) Q)(hS:Fb a1 a2=some r)(he:aA [1,2,5] [(24,.id 24)] [] st=Y8 a1 a2):ZX d Q ab8 [] st:=by
 refine aC he ?_
 unfold Fb at hS
 refine zS (zL 2 2 ?_)
 refine ak hS (fun z12 iz hS=>zO (v:=(.cS (ag.enc z12++(ag.cells (a1.drop ((a2:Int).toNat+1)))))) (aH:= []) (some 33) 3 (.fQ 100 4 (tm 31) (tm 32)) (eE ag (kk:= .i64) (xs:=a1) (j:=a2) (by kernel_rfl) (by kernel_rfl) iz rfl (by intro h;cases h)) (zL 2 5 (ak hS (fun fu lO hS=>zO (some 36) 6 (c1 146 35) (aW (zC (d-1) (bO hd rfl) z12.cW fu lO)) (sB 37 7 (ck 36 2) hS (fun hS=>?_) (fun hS=>?_))))))
 ·refine zL 4 11 (ak hS (fun mU xJ hS=>zG (v:=(dB mU)) (aH:= []) (some 42) 12 38 true (.nQ (tm 39) [(tm 41)]) (AA (f:=195) (cs:= [(pt 24)]) (by kernel_rfl) (args:= [(dI (IntKind.i64.wrap (a2+1))),(pt 24)]) (l:= [(dI (IntKind.i64.wrap (a2+1))),(.cS ((d_ ag).enc a1++ []))]) (r:=(dB mU)) (by kernel_rfl) (by kernel_rfl) (Vx (d-1) (bO hd rfl) (IntKind.i64.wrap (a2+1)) a1 [] mU xJ) (by kernel_rfl) (by kernel_rfl) (by kernel_rfl)) (zL 3 15 (zK ?_))))
  exact aG (au (aM hS hQ (fR (uY (!mU)))))
 ·refine zL 8 15 (zK ?_)
  exact aG (au (aM hS hQ (fR (uY false))))
def f147(a1:List aa)(a2:Int):Option (Bool):=((idx a1 a2).bind fun fV=>(bif (decide (fV.cW=0)) then (bif (decide (a2=0)) then (some true) else ((idx a1 (IntKind.i64.wrap (a2-1))).bind fun f_=>((f146 f_.cW).bind fun gA=>(bif (!decide (gA=2)) then (some true) else ((f195 a2 a1 []).bind fun iw=>(some (!iw))))))) else (Fb a1 a2)))
theorem LX(d:Nat)(hd:3≤d)(a1:List aa)(a2:Int)(r:Bool)(hS:f147 a1 a2=some r):cg az bE d 147 [(dE ag a1),(dI a2)] []=some ((dB r),[]):=by
 refine dN hd (fun Q hQ=>?_) af8
 unfold f147 at hS
 show ZR _ Q ab9 [] _
 replace hQ:FQ (ad7 r) Q:=hQ
 refine zS (zL 2 2 (zK (zS (zL 2 2 (zK (ay (zS (zL 2 2 ?_))))))))
 refine ak hS (fun fV qL hS=>zO (v:=(.cS (ag.enc fV++(ag.cells (a1.drop ((a2:Int).toNat+1)))))) (aH:= []) (some 9) 3 (.fQ 100 4 (tm 7) (tm 8)) (eE ag (kk:= .i64) (xs:=a1) (j:=a2) (by kernel_rfl) (by kernel_rfl) qL rfl (by intro h;cases h)) (zL 2 5 (sB 12 6 (ck 11 0) hS (fun hS=>?_) (fun hS=>?_))))
 ·refine zK (zT (zS (zL 1 1 ?_)))
  refine sB 14 2 (ck 13 0) hS (fun hS=>?_) (fun hS=>?_)
  ·refine zL 17 19 (zK ?_)
   exact aG (bD (au (aM hS hQ (fR (uY true)))))
  ·refine zL 4 6 (ak hS (fun f_ nM hS=>zG (v:=(.cS (ag.enc f_++(ag.cells (a1.drop (((IntKind.i64.wrap (a2-1)):Int).toNat+1)))))) (aH:= []) (some 19) 7 15 false (.fQ 100 4 (tm 16) (tm 18)) (eE ag (kk:= .i64) (xs:=a1) (j:=(IntKind.i64.wrap (a2-1))) (by kernel_rfl) (by kernel_rfl) nM rfl (by intro h;cases h)) (zL 2 9 (ak hS (fun gA qM hS=>zG (some 22) 10 15 false (c1 146 21) (aW (zC (d-1) (bO hd rfl) f_.cW gA qM)) (sH 23 11 15 false (.a_ .neq (tm 22) (ki 2)) hS (fun hS=>?_) (fun hS=>?_)))))))
   ·refine zL 8 19 (zK ?_)
    exact aG (bD (au (aM hS hQ (fR (uY true)))))
   ·refine zL 4 15 (ak hS (fun iw oQ hS=>zG (v:=(dB iw)) (aH:= []) (some 28) 16 25 false (.nQ (tm 26) [(tm 27)]) (AA (f:=195) (cs:= [(.r (.ptr 24 1 0))]) (by kernel_rfl) (args:= [(dI a2),(.r (.ptr 24 1 0))]) (l:= [(dI a2),(.cS ((d_ ag).enc a1++ []))]) (r:=(dB iw)) (by kernel_rfl) (by kernel_rfl) (Vx (d-1) (bO hd rfl) a2 a1 [] iw oQ) (by kernel_rfl) (by kernel_rfl) (by kernel_rfl)) (zL 3 19 (zK ?_))))
    exact aG (bD (au (aM hS hQ (fR (uY (!iw))))))
 ·refine zK (zF ?_)
  exact aJ (aq (Vy hd a1 a2 hQ hS (by kernel_rfl)))
/- farwriter/grid.Check -/
def LY(ad8:Int):St:=⟨(up u0 2 (dI ad8)),h0⟩
theorem Fc(ad8:Int):bA (LY ad8) 0 UE.res=some ((dI ad8),[]):=by
 kernel_rfl
def Y9(r:Int)(e:PX)(st:St):Prop:=bh UE 0 ((dI r),[]) e st
def ahj(a1:aV)(x:Int):St:=⟨(up (up (up u0 27 (dI x)) 26 (dI a1.cC)) 1 (pt 16)),(up h0 16 ⟨0,some (.box (iZ a1))⟩)⟩
def uZ(a1:aV)(x:Int)(st:St):Prop:=aA [1,26,27] [(16,.id 16)] [] st=ahj a1 x
def Fe(a1:aV):St:=⟨u0,h0⟩
def AV(a1:aV)(z:Unit⊕Int)(e:PX)(st:St):Prop:=(match z with | .inl z=>e= .exit 0∧st=Fe a1 | .inr z=>e= .ret∧dZ UE.fin st=LY z)
def RH(a1:aV)(x:(List aa)×Int×(List aa)×Int×Int):St:=⟨(up (up (up (up (up (up (up u0 35 (dI x.2.2.2.2)) 34 (dI x.2.2.2.1)) 33 (dE ag x.2.2.1)) 27 (dI x.2.1)) 26 (dI a1.cC)) 5 (dE ag x.1)) 1 (pt 16)),(up h0 16 ⟨0,some (.box (iZ a1))⟩)⟩
def nA(a1:aV)(x:(List aa)×Int×(List aa)×Int×Int)(st:St):Prop:=aA [1,5,26,27,33,34,35] [(16,.id 16)] [] st=RH a1 x
def xL(a1:aV)(aA6:Int):St:=⟨(up (up (up u0 27 (dI aA6)) 26 (dI a1.cC)) 1 (pt 16)),(up h0 16 ⟨0,some (.box (iZ a1))⟩)⟩
def pZ(a1:aV)(z:Int⊕Int)(e:PX)(st:St):Prop:=(match z with | .inl z=>e= .exit 2∧st=xL a1 z | .inr z=>e= .ret∧dZ UE.fin st=LY z)
def IU(a1:aV)(zD:List aa)(LZ:Int)(B3:List aa)(L0:Int)(sS:Int):St:=⟨(up (up (up (up (up (up (up u0 35 (dI sS)) 34 (dI L0)) 33 (dE ag B3)) 27 (dI LZ)) 26 (dI a1.cC)) 5 (dE ag zD)) 1 (pt 16)),(up h0 16 ⟨0,some (.box (iZ a1))⟩)⟩
def lW(a1:aV)(zD:List aa)(LZ:Int)(B3:List aa)(L0:Int)(sS:Int):Option (((List aa)×Int×(List aa)×Int×Int)⊕(Int⊕Int)):=((idx B3 sS).bind fun z67=>((f84 z67.bM).bind fun Bt=>(bif (!decide (Bt=0)) then (some (.inr (.inr 4))) else (bif (!decide (z67.cW=0)) then ((f146 z67.cW).bind fun Vz=>(bif (decide (Vz=0)) then (some (.inr (.inr 4))) else ((f147 zD sS).bind fun z70=>(bif z70 then (some (.inr (.inr 4))) else (some (.inl (zD,LZ,B3,L0,(IntKind.i64.wrap (sS+1))))))))) else ((f147 zD sS).bind fun z71=>(bif z71 then (some (.inr (.inr 4))) else (some (.inl (zD,LZ,B3,L0,(IntKind.i64.wrap (sS+1)))))))))))
theorem Hp(hd:4≤d)(a1:aV){r:((List aa)×Int×(List aa)×Int×Int)⊕(Int⊕Int)}(hQ:FQ (bS (nA a1) (pZ a1) r) Q)(zD:List aa)(LZ:Int)(B3:List aa)(L0:Int)(sS:Int)(hS:lW a1 zD LZ B3 L0 sS=some r)(he:aA [1,5,26,27,33,34,35] [(16,.id 16)] [] st=IU a1 zD LZ B3 L0 sS):ZX d Q amz [] st:=by
 refine aC he ?_
 unfold lW at hS
 refine ay (bF (zS (zL 1 1 ?_)))
 refine ak hS (fun z67 aqc hS=>zO (v:=(.cS (ag.enc z67++(ag.cells (B3.drop ((sS:Int).toNat+1)))))) (aH:= []) (some 38) 2 (.fQ 100 4 (tm 33) (tm 35)) (eE ag (kk:= .i64) (xs:=B3) (j:=sS) (by kernel_rfl) (by kernel_rfl) aqc rfl (by intro h;cases h)) (zL 4 6 (zK (zS (zL 2 2 ?_)))))
 refine ak hS (fun Bt aqd hS=>zO (some 42) 3 (c1 84 41) (aW (Jg (d-1) (bO hd rfl) z67.bM Bt aqd)) (sB 43 4 (.a_ .neq (tm 42) (ki 0)) hS (fun hS=>?_) (fun hS=>?_)))
 ·refine zL 16 20 (zK (zT (zS (zL 1 1 (zK ?_)))))
  exact aG (cU (bD (au (xU hS hQ))))
 ·refine zL 3 7 (sH 47 8 44 false (.a_ .neq (tm 46) (ki 0)) hS (fun hS=>?_) (fun hS=>?_))
  ·refine zL 3 11 (ak hS (fun Vz aqe hS=>zG (some 51) 12 48 true (c1 146 50) (aW (zC (d-1) (bO hd rfl) z67.cW Vz aqe)) (sH 52 13 48 true (ck 51 0) hS (fun hS=>?_) (fun hS=>?_))))
   ·refine zL 7 20 (zK (zT (zS (zL 1 1 (zK ?_)))))
    exact aG (cU (bD (au (xU hS hQ))))
   ·refine zL 5 18 (ak hS (fun z70 aqf hS=>zG (some 58) 19 55 false (.call 147 [(tm 56),(tm 57)]) (aW (LX (d-1) (bO hd rfl) zD sS z70 aqf)) (zL 1 20 (zK ?_))))
    refine sR 59 hS (fun hS=>?_) (fun hS=>?_)
    ·refine zT (zS (zL 1 1 (zK ?_)))
     exact aG (cU (bD (au (xU hS hQ))))
    ·refine zF (aJ (cq (aq (aN (zL 2 2 (zE ?_))))))
     exact au (gC hS hQ)
  ·refine zL 10 18 (ak hS (fun z71 aA7 hS=>zG (some 58) 19 55 false (.call 147 [(tm 56),(tm 57)]) (aW (LX (d-1) (bO hd rfl) zD sS z71 aA7)) (zL 1 20 (zK ?_))))
   refine sR 59 hS (fun hS=>?_) (fun hS=>?_)
   ·refine zT (zS (zL 1 1 (zK ?_)))
    exact aG (cU (bD (au (xU hS hQ))))
   ·refine zF (aJ (cq (aq (aN (zL 2 2 (zE ?_))))))
    exact au (gC hS hQ)
def IV(a1:aV)(L1:List aa)(Ff:Int)(L4:List aa)(L5:Int)(L6:Int)(Pp:Bool):St:=⟨(up (up (up (up (up (up (up (up u0 36 (dB Pp)) 35 (dI L6)) 34 (dI L5)) 33 (dE ag L4)) 27 (dI Ff)) 26 (dI a1.cC)) 5 (dE ag L1)) 1 (pt 16)),(up h0 16 ⟨0,some (.box (iZ a1))⟩)⟩
def iY(a1:aV)(L1:List aa)(Ff:Int)(L4:List aa)(L5:Int)(L6:Int)(Pp:Bool):Option (((List aa)×Int×(List aa)×Int×Int)⊕(Int⊕Int)):=(bif Pp then (lW a1 L1 Ff L4 L5 L6) else (some (.inr (.inl Ff))))
theorem u5(hd:4≤d)(a1:aV){r:((List aa)×Int×(List aa)×Int×Int)⊕(Int⊕Int)}(hQ:FQ (bS (nA a1) (pZ a1) r) Q)(L1:List aa)(Ff:Int)(L4:List aa)(L5:Int)(L6:Int)(Pp:Bool)(hS:iY a1 L1 Ff L4 L5 L6 Pp=some r)(he:aA [1,5,26,27,33,34,35,36] [(16,.id 16)] [] st=IV a1 L1 Ff L4 L5 L6 Pp):ZX d Q amA [] st:=by
 refine aC he ?_
 unfold iY at hS
 refine ay (sR 36 hS (fun hS=>?_) (fun hS=>?_))
 ·exact zT (aJ (aq (Hp hd a1 hQ L1 Ff L4 L5 L6 hS (by kernel_rfl))))
 ·exact zF (aC (J:=xL a1 Ff) (by kernel_rfl) (cP (cG (au (iW hS hQ)))))
def kK(a1:aV)(x:(List aa)×Int×(List aa)×Int×Int):Option (((List aa)×Int×(List aa)×Int×Int)⊕(Int⊕Int)):=(bif (decide (x.2.2.2.2<x.2.2.2.1)) then (iY a1 x.1 x.2.1 x.2.2.1 x.2.2.2.1 x.2.2.2.2 true) else (iY a1 x.1 x.2.1 x.2.2.1 x.2.2.2.1 x.2.2.2.2 false))
theorem NH(hd:4≤d)(a1:aV){r:((List aa)×Int×(List aa)×Int×Int)⊕(Int⊕Int)}(hQ:FQ (bS (nA a1) (pZ a1) r) Q){x:(List aa)×Int×(List aa)×Int×Int}(hS:kK a1 x=some r)(he:nA a1 x st):ZX d Q amB [] st:=by
 refine aC he ?_
 unfold kK at hS
 refine zS ?_
 refine sB 36 1 (.a_ .lss (tm 35) (tm 34)) hS (fun hS=>?_) (fun hS=>?_)
 ·refine zK ?_
  exact u5 hd a1 hQ x.1 x.2.1 x.2.2.1 x.2.2.2.1 x.2.2.2.2 true hS (by kernel_rfl)
 ·refine zK ?_
  exact u5 hd a1 hQ x.1 x.2.1 x.2.2.1 x.2.2.2.1 x.2.2.2.2 false hS (by kernel_rfl)
def RI(a1:aV)(Fg:Int):St:=⟨(up (up (up u0 27 (dI Fg)) 26 (dI a1.cC)) 1 (pt 16)),(up h0 16 ⟨0,some (.box (iZ a1))⟩)⟩
def ru(a1:aV)(Fg:Int):Option (Int⊕(Unit⊕Int)):=((f38 a1 Fg).bind fun z51=>((bR (kK a1) (z51,Fg,z51,(z51.length:Int),0)).bind fun z72=>(Sum.elim (fun z73=>(some (.inl (IntKind.i64.wrap (z73+1))))) (fun z74=>(some (.inr (.inr z74)))) z72)))
theorem NI(hd:4≤d)(a1:aV){r:Int⊕(Unit⊕Int)}(hQ:FQ (bS (uZ a1) (AV a1) r) Q)(Fg:Int)(hS:ru a1 Fg=some r)(he:aA [1,26,27] [(16,.id 16)] [] st=RI a1 Fg):ZX d Q amC [] st:=by
 refine aC he ?_
 unfold ru at hS
 refine ay (bF (zS (zL 2 2 (zK (zS (zL 2 2 ?_))))))
 refine ak hS (fun z51 VA hS=>zO (some 32) 3 (.er 38 [(tm 30),(tm 31)]) (pH [] [] (ad5 (d-1) (bO hd rfl) a1 Fg z51 VA) nr) (zL 1 4 (zK (zS (zL 3 3 (zK ?_))))))
 refine bF (ak hS (fun z72 aA_ hS=>dD (nA a1) (pZ a1) (fun x st r Q h0 hS hQ=>NH hd a1 hQ hS h0) (x:=(z51,Fg,z51,(z51.length:Int),0)) (z:=z72) (by show aA _ _ _ _=_;kernel_rfl) aA_ ?_))
 rcases z72 with z73 | z74
 ·replace hS:=(show _=_ from hS)
  simp only [IJ] at hS
  intro e bX _ hX
  obtain ⟨rfl,rfl⟩:_∧_:=hX
  refine cQ (cq (aq (aN (zL 2 2 (zE ?_)))))
  exact au (gC hS hQ)
 ·simp only [IK] at hS
  intro e bX _ hX
  obtain ⟨rfl,hX⟩:_∧_:=hX
  exact cU (cU (bD (au (aM hS hQ (Ax (by intro h;cases h) (by show _=_∧_=_;exact ⟨rfl,hX⟩))))))
def RJ(a1:aV)(L8:Int)(Pq:Bool):St:=⟨(up (up (up (up u0 28 (dB Pq)) 27 (dI L8)) 26 (dI a1.cC)) 1 (pt 16)),(up h0 16 ⟨0,some (.box (iZ a1))⟩)⟩
def mq(a1:aV)(L8:Int)(Pq:Bool):Option (Int⊕(Unit⊕Int)):=(bif Pq then (ru a1 L8) else (some (.inr (.inl ()))))
theorem B4(hd:4≤d)(a1:aV){r:Int⊕(Unit⊕Int)}(hQ:FQ (bS (uZ a1) (AV a1) r) Q)(L8:Int)(Pq:Bool)(hS:mq a1 L8 Pq=some r)(he:aA [1,26,27,28] [(16,.id 16)] [] st=RJ a1 L8 Pq):ZX d Q amD [] st:=by
 refine aC he ?_
 unfold mq at hS
 refine ay (sR 28 hS (fun hS=>?_) (fun hS=>?_))
 ·exact zT (aJ (aq (NI hd a1 hQ L8 hS (by kernel_rfl))))
 ·exact zF (aC (J:=Fe a1) (by kernel_rfl) (cP (cG (au (iW hS hQ)))))
def sU(a1:aV)(x:Int):Option (Int⊕(Unit⊕Int)):=(bif (decide (x<a1.cC)) then (mq a1 x true) else (mq a1 x false))
theorem Y_(hd:4≤d)(a1:aV){r:Int⊕(Unit⊕Int)}(hQ:FQ (bS (uZ a1) (AV a1) r) Q){x:Int}(hS:sU a1 x=some r)(he:uZ a1 x st):ZX d Q amE [] st:=by
 refine aC he ?_
 unfold sU at hS
 refine zS ?_
 refine sB 28 1 (.a_ .lss (tm 27) (tm 26)) hS (fun hS=>?_) (fun hS=>?_)
 ·refine zK ?_
  exact B4 hd a1 hQ x true hS (by kernel_rfl)
 ·refine zK ?_
  exact B4 hd a1 hQ x false hS (by kernel_rfl)
def ahk(a1:aV):St:=⟨(up u0 1 (pt 16)),(up h0 16 ⟨0,some (.box (iZ a1))⟩)⟩
def Jq(a1:aV):Option (Int):=((bR (sU a1) 0).bind fun z75=>(Sum.elim (fun z76=>(some 0)) (fun z77=>(some z77)) z75))
theorem Za(hd:4≤d)(a1:aV){r:Int}(hQ:FQ (Y9 r) Q)(hS:Jq a1=some r)(he:aA [1] [(16,.id 16)] [] st=ahk a1):ZX d Q amF [] st:=by
 refine aC he ?_
 unfold Jq at hS
 refine ay (zS (zL 3 3 (zK ?_)))
 refine bF (ak hS (fun z75 aBa hS=>dD (uZ a1) (AV a1) (fun x st r Q h0 hS hQ=>Y_ hd a1 hQ hS h0) (x:=0) (z:=z75) (by show aA _ _ _ _=_;kernel_rfl) aBa ?_))
 rcases z75 with z76 | z77
 ·replace hS:=(show _=_ from hS)
  simp only [IJ] at hS
  intro e bX _ hX
  obtain ⟨rfl,rfl⟩:_∧_:=hX
  refine cQ (aq (zS (zL 1 1 (zK ?_))))
  exact aG (au (aM hS hQ (fR (Fc 0))))
 ·simp only [IK] at hS
  intro e bX _ hX
  obtain ⟨rfl,hX⟩:_∧_:=hX
  exact cU (bD (au (aM hS hQ (ko (by kernel_rfl) ((congrArg (fun s=>bA s 0 UE.res) hX).trans (Fc z77))))))
def ahl(a1:aV):St:=⟨(up u0 1 (pt 16)),(up h0 16 ⟨0,some (.box (iZ a1))⟩)⟩
def Jr(a1:aV):Option (Int):=(bif (!decide ((a1.Cells.length:Int)=(IntKind.i64.wrap (a1.bV*a1.cC)))) then (some 4) else (Jq a1))
theorem Zb(hd:4≤d)(a1:aV){r:Int}(hQ:FQ (Y9 r) Q)(hS:Jr a1=some r)(he:aA [1] [(16,.id 16)] [] st=ahl a1):ZX d Q amG [] st:=by
 refine aC he ?_
 unfold Jr at hS
 refine ay (zS (zL 8 8 ?_))
 refine sB 24 9 (.a_ .neq (tm 18) (tm 23)) hS (fun hS=>?_) (fun hS=>?_)
 ·refine zK (zT (zS (zL 1 1 (zK ?_))))
  exact aG (bD (au (aM hS hQ (fR (Fc 4)))))
 ·refine zK (zF ?_)
  exact aJ (aq (Za hd a1 hQ hS (by kernel_rfl)))
def f83(a1:aV):Option (Int):=((f89 a1.bV a1.cC).bind fun z78=>(bif (!decide (z78=0)) then (some z78) else (Jr a1)))
theorem ad9(d:Nat)(hd:4≤d)(a1:aV)(r:Int)(hS:f83 a1=some r):cg az bE d 83 [(.agg (iZ a1))] []=some ((dI r),[]):=by
 refine dN hd (fun Q hQ=>?_) apd
 unfold f83 at hS
 show ZR _ Q amH [] _
 replace hQ:FQ (Y9 r) Q:=hQ
 refine zS (zL 2 2 (zK (ay (zS (zL 4 4 ?_)))))
 refine ak hS (fun z78 aBb hS=>zO (some 12) 5 (.call 89 [(tm 9),(tm 11)]) (aW (adT (d-1) (bO hd rfl) a1.bV a1.cC z78 aBb)) (zL 1 6 (zK (zS (zL 1 1 ?_)))))
 refine sB 14 2 (.a_ .neq (tm 13) (ki 0)) hS (fun hS=>?_) (fun hS=>?_)
 ·refine zK (zT (zS (zL 2 2 (zK ?_))))
  exact aG (bD (au (aM hS hQ (fR (Fc z78)))))
 ·refine zK (zF ?_)
  exact aJ (aq (Zb hd a1 hQ hS (by kernel_rfl)))
/- farwriter/screen.within -/
def aqh(p3:Bool):St:=⟨(up u0 6 (dB p3)),h0⟩
theorem L9(p3:Bool):bA (aqh p3) 0 c98.res=some ((dB p3),[]):=by
 kernel_rfl
def ayS(r:Bool)(e:PX)(st:St):Prop:=bh c98 0 ((dB r),[]) e st
def f98(a1:Int)(a2:Int)(a3:Int):Option (Bool):=(bif (decide (a2≤a1)) then (bif (decide (a1≤a3)) then (some true) else (some false)) else (some false))
theorem sV(d:Nat)(hd:1≤d)(a1:Int)(a2:Int)(a3:Int)(r:Bool)(hS:f98 a1 a2 a3=some r):cg az bE d 98 [(dI a1),(dI a2),(dI a3)] []=some ((dB r),[]):=by
 refine dN hd (fun Q hQ=>?_) apn
 unfold f98 at hS
 show ZR _ Q amI [] _
 replace hQ:FQ (ayS r) Q:=hQ
 refine zS (zL 1 1 (zK (zS (zL 2 2 ?_))))
 refine sB 9 3 (.a_ .geq (tm 7) (tm 8)) hS (fun hS=>?_) (fun hS=>?_)
 ·refine zL 3 6 (sH 13 7 10 true (.a_ .leq (tm 11) (tm 12)) hS (fun hS=>?_) (fun hS=>?_))
  ·refine zL 2 9 (zK ?_)
   exact aG (au (aM hS hQ (fR (L9 true))))
  ·refine zL 2 9 (zK ?_)
   exact aG (au (aM hS hQ (fR (L9 false))))
 ·refine zL 6 9 (zK ?_)
  exact aG (au (aM hS hQ (fR (L9 false))))
/- farwriter/page.Known -/
def aqi(p3:Bool):St:=⟨(up u0 2 (dB p3)),h0⟩
theorem L_(p3:Bool):bA (aqi p3) 0 c99.res=some ((dB p3),[]):=by
 kernel_rfl
def ayT(r:Bool)(e:PX)(st:St):Prop:=bh c99 0 ((dB r),[]) e st
def f99(a1:Int):Option (Bool):=(bif (decide (1≤a1)) then (bif (decide (a1≤4)) then (some true) else (some false)) else (some false))
theorem Fh(d:Nat)(hd:1≤d)(a1:Int)(r:Bool)(hS:f99 a1=some r):cg az bE d 99 [(dI a1)] []=some ((dB r),[]):=by
 refine dN hd (fun Q hQ=>?_) apo
 unfold f99 at hS
 show ZR _ Q amK [] _
 replace hQ:FQ (ayT r) Q:=hQ
 refine zS (zL 1 1 (zK (zS (zL 1 1 ?_))))
 refine sB 4 2 (.a_ .geq (tm 3) (ki 1)) hS (fun hS=>?_) (fun hS=>?_)
 ·refine zL 2 4 (sH 7 5 5 true (.a_ .leq (tm 6) (ki 4)) hS (fun hS=>?_) (fun hS=>?_))
  ·refine zL 2 7 (zK ?_)
   exact aG (au (aM hS hQ (fR (L_ true))))
  ·refine zL 2 7 (zK ?_)
   exact aG (au (aM hS hQ (fR (L_ false))))
 ·refine zL 5 7 (zK ?_)
  exact aG (au (aM hS hQ (fR (L_ false))))
/- farwriter/screen.past -/
def ahm:St:=⟨(up u0 2 (dB true)),h0⟩
theorem ahn:bA (ahm) 0 UF.res=some ((dB true),[]):=by
 kernel_rfl
def au1(r:Unit)(e:PX)(st:St):Prop:=bh UF 0 ((dB true),[]) e st
def f100(a1:List bk):Option (Unit):=(bif (decide (0<(a1.length:Int))) then none else (bif (decide ((a1.length:Int)≤40)) then (some ()) else none))
theorem aqj(d:Nat)(hd:1≤d)(a1:List bk)(r:Unit)(hS:f100 a1=some r):cg az bE d 100 [(dE bJ a1)] []=some ((dB true),[]):=by
 refine dN hd (fun Q hQ=>?_) afX
 unfold f100 at hS
 show ZR _ Q ab_ [] _
 replace hQ:FQ (au1 r) Q:=hQ
 refine zS (zL 1 1 (zK (ay (zS (zL 3 3 (zK ?_))))))
 refine bF (jI (zS ?_))
 refine sB 8 1 (.a_ .lss (tm 7) (tm 6)) hS (fun hS=>?_) (fun hS=>?_)
 ·cases hS
 ·refine zK (ay (zF ?_))
  refine cP (cG (cG (cQ (aq (zS (zL 2 2 ?_))))))
  refine sB 22 3 (.a_ .leq (tm 21) (ki 40)) hS (fun hS=>?_) (fun hS=>?_)
  ·refine zL 1 4 (zK ?_)
   exact aG (au (aM hS hQ (fR (ahn))))
  ·cases hS
/- farwriter/screen.Check -/
def aqk:St:=⟨(up u0 2 (dI 0)),h0⟩
theorem aql:bA (aqk) 0 c55.res=some ((dI 0),[]):=by
 kernel_rfl
def Hq(r:Unit)(e:PX)(st:St):Prop:=bh c55 0 ((dI 0),[]) e st
def aho(a1:ah)(p7:Bool):St:=⟨(up (up u0 5 (dB p7)) 1 (pt 16)),(up h0 16 ⟨0,some (.box (av a1))⟩)⟩
def Js(a1:ah)(p7:Bool):Option (Unit):=(bif p7 then ((f98 a1.dF 0 1).bind fun YK=>(bif YK then ((f98 a1.aR.dF 0 1).bind fun z46=>(bif z46 then ((f98 a1.aR.Row 0 59).bind fun z49=>(bif z49 then ((f98 a1.aR.dS 0 159).bind fun VB=>(bif VB then (bif (decide ((a1.iF.length:Int)≤256)) then ((f100 a1.cD).bind fun z51=>(some ())) else none) else none)) else none)) else none)) else none)) else none)
theorem Zc(hd:5≤d)(a1:ah){r:Unit}(hQ:FQ (Hq r) Q)(p7:Bool)(hS:Js a1 p7=some r)(he:aA [1,5] [(16,.id 16)] [] st=aho a1 p7):ZX d Q Q6 [] st:=by
 refine aC he ?_
 unfold Js at hS
 refine zS (zL 2 2 ?_)
 refine sL 119 hS (fun hS=>?_) (fun hS=>?_)
 ·refine zL 2 4 (ak hS (fun YK Pk hS=>zG (some 122) 5 119 true (.call 98 [(tm 121),(ki 0),(ki 1)]) (aW (sV (d-1) (bO hd rfl) a1.dF 0 1 YK Pk)) (zL 2 7 (sL 124 hS (fun hS=>?_) (fun hS=>?_)))))
  ·refine zL 3 10 (ak hS (fun z46 Vj hS=>zG (some 128) 11 124 true (.call 98 [(tm 127),(ki 0),(ki 1)]) (aW (sV (d-1) (bO hd rfl) a1.aR.dF 0 1 z46 Vj)) (zL 2 13 (zK (zS (zL 2 2 ?_))))))
   refine sL 131 hS (fun hS=>?_) (fun hS=>?_)
   ·refine zL 3 5 (ak hS (fun z49 VC hS=>zG (some 135) 6 131 true (.call 98 [(tm 134),(ki 0),(ki 59)]) (aW (sV (d-1) (bO hd rfl) a1.aR.Row 0 59 z49 VC)) (zL 2 8 (sL 137 hS (fun hS=>?_) (fun hS=>?_)))))
    ·refine zL 3 11 (ak hS (fun VB aqm hS=>zG (some 141) 12 137 true (.call 98 [(tm 140),(ki 0),(ki 159)]) (aW (sV (d-1) (bO hd rfl) a1.aR.dS 0 159 VB aqm)) (zL 2 14 (zK (zS (zL 2 2 ?_))))))
     refine sL 144 hS (fun hS=>?_) (fun hS=>?_)
     ·refine zL 3 5 (sH 148 6 144 true (.a_ .leq (tm 147) (ki 256)) hS (fun hS=>?_) (fun hS=>?_))
      ·refine zL 4 10 (ak hS (fun z51 VA hS=>zG (some 153) 11 150 true (c1 100 152) (aW (aqj (d-1) (bO hd rfl) a1.cD z51 VA)) (zL 2 13 (zK (ay (zS (zL 2 2 (zK (zF ?_)))))))))
       refine aJ (aq (zS (zL 1 1 (zK ?_))))
       exact aG (au (aM hS hQ (fR (aql))))
      ·refine zL 3 9 ?_
       cases hS
     ·refine zL 1 3 ?_
      cases hS
    ·refine zL 2 10 ?_
     cases hS
   ·refine zL 2 4 ?_
    cases hS
  ·refine zL 2 9 ?_
   cases hS
 ·refine zL 1 3 ?_
  cases hS
def ahp(a1:ah)(eG:Bool):St:=⟨(up (up (up u0 98 (dI 1)) 5 (dB eG)) 1 (pt 16)),(up h0 16 ⟨0,some (.box (av a1))⟩)⟩
def Jt(a1:ah)(eG:Bool):Option (Unit):=(bif eG then ((f99 a1.bY.2).bind fun IW=>(bif IW then ((f99 a1.aR.bY.2).bind fun IX=>(Js a1 IX)) else none)) else none)
theorem Zd(hd:5≤d)(a1:ah){r:Unit}(hQ:FQ (Hq r) Q)(eG:Bool)(hS:Jt a1 eG=some r)(he:aA [1,5,98] [(16,.id 16)] [] st=ahp a1 eG):ZX d Q Yw [.seq Yx,.blk 0,.seq Q6] st:=by
 refine aC he ?_
 unfold Jt at hS
 refine ay (bF (zS (zL 2 2 (zK (aN (zL 2 2 ?_))))))
 refine sL 102 hS (fun hS=>?_) (fun hS=>?_)
 ·refine zL 4 6 (ak hS (fun IW VD hS=>zG (some 107) 7 102 true (c1 99 106) (aW (Fh (d-1) (bO hd rfl) a1.bY.2 IW VD)) (zL 2 9 (sL 109 hS (fun hS=>?_) (fun hS=>?_)))))
  ·refine zL 5 14 (ak hS (fun IX VE hS=>zG (some 115) 15 109 true (c1 99 114) (aW (Fh (d-1) (bO hd rfl) a1.aR.bY.2 IX VE)) (zL 2 17 (zE ?_))))
   refine cq (aq (aN (zL 2 2 (zK ?_))))
   refine jI (zS (zL 1 1 (zK (ay (zF ?_)))))
   exact cP (cG (cG (cQ (aq (Zc hd a1 hQ IX hS (by kernel_rfl))))))
  ·refine zL 4 13 ?_
   cases hS
 ·refine zL 3 5 ?_
  cases hS
def ahq(a1:ah)(p8:Bool):St:=⟨(up (up (up u0 98 (dI 0)) 5 (dB p8)) 1 (pt 16)),(up h0 16 ⟨0,some (.box (av a1))⟩)⟩
def Ju(a1:ah)(p8:Bool):Option (Unit):=(bif p8 then ((f99 a1.bY.1).bind fun u6=>(bif u6 then ((f99 a1.aR.bY.1).bind fun z53=>(Jt a1 z53)) else none)) else none)
theorem Ze(hd:5≤d)(a1:ah){r:Unit}(hQ:FQ (Hq r) Q)(p8:Bool)(hS:Ju a1 p8=some r)(he:aA [1,5,98] [(16,.id 16)] [] st=ahq a1 p8):ZX d Q Yw [.seq Yx,.blk 0,.seq Q6] st:=by
 refine aC he ?_
 unfold Ju at hS
 refine ay (bF (zS (zL 2 2 (zK (aN (zL 2 2 ?_))))))
 refine sL 102 hS (fun hS=>?_) (fun hS=>?_)
 ·refine zL 4 6 (ak hS (fun u6 VF hS=>zG (some 107) 7 102 true (c1 99 106) (aW (Fh (d-1) (bO hd rfl) a1.bY.1 u6 VF)) (zL 2 9 (sL 109 hS (fun hS=>?_) (fun hS=>?_)))))
  ·refine zL 5 14 (ak hS (fun z53 aqn hS=>zG (some 115) 15 109 true (c1 99 114) (aW (Fh (d-1) (bO hd rfl) a1.aR.bY.1 z53 aqn)) (zL 2 17 (zE ?_))))
   refine cq (aq (aN (zL 2 2 (zK ?_))))
   refine jI (zS (zL 1 1 (zK (ay (zT ?_)))))
   exact aJ (aq (Zd hd a1 hQ z53 hS (by kernel_rfl)))
  ·refine zL 4 13 ?_
   cases hS
 ·refine zL 3 5 ?_
  cases hS
def ahr(a1:ah)(p6:Bool):St:=⟨(up (up u0 5 (dB p6)) 1 (pt 16)),(up h0 16 ⟨0,some (.box (av a1))⟩)⟩
def Fi(a1:ah)(p6:Bool):Option (Unit):=(bif p6 then ((f84 a1.bM).bind fun sg=>(bif (decide (sg=0)) then ((f84 a1.aR.bM).bind fun z33=>(bif (decide (z33=0)) then ((f98 a1.gD 0 2047).bind fun Fj=>(Ju a1 Fj)) else none)) else none)) else none)
theorem Ma(hd:5≤d)(a1:ah){r:Unit}(hQ:FQ (Hq r) Q)(p6:Bool)(hS:Fi a1 p6=some r)(he:aA [1,5] [(16,.id 16)] [] st=ahr a1 p6):ZX d Q amN [] st:=by
 refine aC he ?_
 unfold Fi at hS
 refine zS (zL 2 2 ?_)
 refine sL 80 hS (fun hS=>?_) (fun hS=>?_)
 ·refine zL 2 4 (ak hS (fun sg Im hS=>zG (some 83) 5 80 true (c1 84 82) (aW (Jg (d-1) (bO hd rfl) a1.bM sg Im)) (sH 84 6 80 true (ck 83 0) hS (fun hS=>?_) (fun hS=>?_))))
  ·refine zL 5 11 (ak hS (fun z33 Pr hS=>zG (some 90) 12 86 true (c1 84 89) (aW (Jg (d-1) (bO hd rfl) a1.aR.bM z33 Pr)) (sH 91 13 86 true (ck 90 0) hS (fun hS=>?_) (fun hS=>?_))))
   ·refine zL 4 17 (ak hS (fun Fj Io hS=>zG (some 96) 18 93 true (.call 98 [(tm 95),(ki 0),(ki 2047)]) (aW (sV (d-1) (bO hd rfl) a1.gD 0 2047 Fj Io)) (zL 2 20 (zK (ay (zS (zL 1 1 (zK ?_))))))))
    refine bF (jI (zS (zL 1 1 (zK (ay (zT ?_))))))
    exact aJ (aq (Ze hd a1 hQ Fj hS (by kernel_rfl)))
   ·refine zL 3 16 ?_
    cases hS
  ·refine zL 3 9 ?_
   cases hS
 ·refine zL 1 3 ?_
  cases hS
def ahs(a1:ah)(p4:Bool):St:=⟨(up (up (up u0 5 (dB p4)) 3 (pt 32)) 1 (pt 16)),(up (up h0 32 ⟨0,some (.box (BP a1))⟩) 16 ⟨0,some (.box (av a1))⟩)⟩
def Fk(a1:ah)(p4:Bool):Option (Unit):=(bif p4 then ((f98 a1.Row 0 (IntKind.i64.wrap (a1.aT.cC-1))).bind fun z26=>(bif z26 then ((f98 a1.dS 0 (IntKind.i64.wrap (a1.aT.bV-1))).bind fun j4=>(bif j4 then (bif (!a1.eL) then ((f98 a1.jo 0 (IntKind.i64.wrap (a1.dy-1))).bind fun IY=>(bif IY then (bif (decide (a1.dy≤a1.aT.cC)) then (Fi a1 true) else (Fi a1 false)) else none)) else none) else none)) else none)) else none)
theorem Mb(hd:5≤d)(a1:ah){r:Unit}(hQ:FQ (Hq r) Q)(p4:Bool)(hS:Fk a1 p4=some r)(he:aA [1,3,5] [(16,.id 16),(32,.id 32)] [] st=ahs a1 p4):ZX d Q amO [] st:=by
 refine aC he ?_
 unfold Fk at hS
 refine zS (zL 2 2 ?_)
 refine sL 34 hS (fun hS=>?_) (fun hS=>?_)
 ·refine zL 5 7 (ak hS (fun z26 nt hS=>zG (some 40) 8 34 true (.call 98 [(tm 36),(ki 0),(tm 39)]) (aW (sV (d-1) (bO hd rfl) a1.Row 0 (IntKind.i64.wrap (a1.aT.cC-1)) z26 nt)) (zL 2 10 (sL 42 hS (fun hS=>?_) (fun hS=>?_)))))
  ·refine zL 5 15 (ak hS (fun j4 sD hS=>zG (some 48) 16 42 true (.call 98 [(tm 44),(ki 0),(tm 47)]) (aW (sV (d-1) (bO hd rfl) a1.dS 0 (IntKind.i64.wrap (a1.aT.bV-1)) j4 sD)) (zL 2 18 (sL 50 hS (fun hS=>?_) (fun hS=>?_)))))
   ·refine zL 4 22 (sL 54 hS (fun hS=>?_) (fun hS=>?_))
    ·refine zL 9 31 (zK (zS (zL 7 7 ?_)))
     refine ak hS (fun IY aqo hS=>zG (some 70) 8 64 true (.call 98 [(tm 66),(ki 0),(tm 69)]) (aW (sV (d-1) (bO hd rfl) a1.jo 0 (IntKind.i64.wrap (a1.dy-1)) IY aqo)) (zL 2 10 (sL 72 hS (fun hS=>?_) (fun hS=>?_))))
     ·refine zL 4 14 (sH 77 15 72 true (.a_ .leq (tm 74) (tm 76)) hS (fun hS=>?_) (fun hS=>?_))
      ·refine zL 2 17 (zK ?_)
       exact Ma hd a1 hQ true hS (by kernel_rfl)
      ·refine zL 2 17 (zK ?_)
       exact Ma hd a1 hQ false hS (by kernel_rfl)
     ·refine zL 1 11 ?_
      cases hS
    ·refine zL 1 23 ?_
     cases hS
   ·refine zL 1 19 ?_
    cases hS
  ·refine zL 1 11 ?_
   cases hS
 ·refine zL 1 3 ?_
  cases hS
def f55(a1:ah):Option (Unit):=((f83 a1.aT).bind fun z59=>(bif (decide (z59=0)) then ((f83 a1.bT).bind fun nK=>(bif (decide (nK=0)) then (bif (decide (a1.aT.bV=a1.bT.bV)) then (bif (decide (a1.aT.cC=a1.bT.cC)) then (Fk a1 true) else (Fk a1 false)) else none) else none)) else none))
theorem ad_(d:Nat)(hd:5≤d)(a1:ah)(r:Unit)(hS:f55 a1=some r):cg az bE d 55 [(.agg (av a1))] []=some ((dI 0),[]):=by
 refine dN hd (fun Q hQ=>?_) ao5
 unfold f55 at hS
 show ZR _ Q amP [] _
 replace hQ:FQ (Hq r) Q:=hQ
 refine zS (zL 2 2 (zK (ay ?_)))
 refine ez (dx 8 8 (iC (aq (zS (zL 1 1 ?_)))))
 refine ak hS (fun z59 VG hS=>zO (some 12) 2 (c1 83 11) (aW (ad9 (d-1) (bO hd rfl) a1.aT z59 VG)) (sB 13 3 (ck 12 0) hS (fun hS=>?_) (fun hS=>?_)))
 ·refine zL 2 5 (ak hS (fun nK VH hS=>zG (some 16) 6 14 true (c1 83 15) (aW (ad9 (d-1) (bO hd rfl) a1.bT nK VH)) (sH 17 7 14 true (ck 16 0) hS (fun hS=>?_) (fun hS=>?_))))
  ·refine zL 6 13 (sH 24 14 19 true (.a_ .eql (tm 21) (tm 23)) hS (fun hS=>?_) (fun hS=>?_))
   ·refine zL 6 20 (sH 31 21 26 true (.a_ .eql (tm 28) (tm 30)) hS (fun hS=>?_) (fun hS=>?_))
    ·refine zL 2 23 (zK ?_)
     exact Mb hd a1 hQ true hS (by kernel_rfl)
    ·refine zL 2 23 (zK ?_)
     exact Mb hd a1 hQ false hS (by kernel_rfl)
   ·refine zL 3 17 ?_
    cases hS
  ·refine zL 3 10 ?_
   cases hS
 ·refine zL 2 5 ?_
  cases hS
/- farwriter/qneg.known -/
def aht(p3:Bool):St:=⟨(up u0 2 (dB p3)),h0⟩
theorem Hr(p3:Bool):bA (aht p3) 0 UG.res=some ((dB p3),[]):=by
 kernel_rfl
def au2(r:Bool)(e:PX)(st:St):Prop:=bh UG 0 ((dB r),[]) e st
def f101(a1:Int):Option (Bool):=(bif (decide (0≤a1)) then (bif (decide (a1≤5)) then (some true) else (some false)) else (some false))
theorem VI(d:Nat)(hd:1≤d)(a1:Int)(r:Bool)(hS:f101 a1=some r):cg az bE d 101 [(dI a1)] []=some ((dB r),[]):=by
 refine dN hd (fun Q hQ=>?_) afY
 unfold f101 at hS
 show ZR _ Q acd [] _
 replace hQ:FQ (au2 r) Q:=hQ
 refine zS (zL 1 1 (zK (zS (zL 1 1 ?_))))
 refine sB 4 2 (.a_ .geq (tm 3) (ki 0)) hS (fun hS=>?_) (fun hS=>?_)
 ·refine zL 2 4 (sH 7 5 5 true (.a_ .leq (tm 6) (ki 5)) hS (fun hS=>?_) (fun hS=>?_))
  ·refine zL 2 7 (zK ?_)
   exact aG (au (aM hS hQ (fR (Hr true))))
  ·refine zL 2 7 (zK ?_)
   exact aG (au (aM hS hQ (fR (Hr false))))
 ·refine zL 5 7 (zK ?_)
  exact aG (au (aM hS hQ (fR (Hr false))))
/- farwriter/qneg.Check -/
def Mc(fE:Int):St:=⟨(up u0 2 (dI fE)),h0⟩
theorem Md(fE:Int):bA (Mc fE) 0 Q7.res=some ((dI fE),[]):=by
 kernel_rfl
def Zf(r:Int)(e:PX)(st:St):Prop:=bh Q7 0 ((dI r),[]) e st
def ahu(a1:dm)(x:Int):St:=⟨(up (up (up (up u0 16 (dI x)) 15 (.agg ((dM.row 256 a1.Us)++ []))) 12 (dI 0)) 11 (BQ a1)),h0⟩
def u7(a1:dm)(x:Int)(st:St):Prop:=aA [11,12,15,16] [] [] st=ahu a1 x
def Fl(a1:dm):St:=⟨(up (up u0 12 (dI 0)) 11 (BQ a1)),h0⟩
def AW(a1:dm)(z:Unit⊕Int)(e:PX)(st:St):Prop:=(match z with | .inl z=>e= .exit 2∧st=Fl a1 | .inr z=>e= .ret∧dZ Q7.fin st=Mc z)
def RM(a1:dm)(xV:Int):St:=⟨(up (up (up (up u0 16 (dI xV)) 15 (.agg ((dM.row 256 a1.Us)++ []))) 12 (dI 0)) 11 (BQ a1)),h0⟩
def wN(a1:dm)(xV:Int):Option (Int⊕(Unit⊕Int)):=((iJ xV 256).bind fun rZ=>((f101 ((a1.Us rZ).toNat:Int)).bind fun mj=>(bif (!mj) then (some (.inr (.inr 4))) else (some (.inl (IntKind.i64.wrap (xV+1)))))))
theorem NJ(hd:2≤d)(a1:dm){r:Int⊕(Unit⊕Int)}(hQ:FQ (bS (u7 a1) (AW a1) r) Q)(xV:Int)(hS:wN a1 xV=some r)(he:aA [11,12,15,16] [] [] st=RM a1 xV):ZX d Q Yy [] st:=by
 refine aC he ?_
 unfold wN at hS
 refine ay (bF (zS ?_))
 refine ak hS (fun rZ T9 hS=>zO (v:=(.d (.int .u8 ((a1.Us rZ).toNat:Int)))) (aH:= []) (some 18) 1 (.M_ .false 256 1 (tm 15) (tm 16)) (I5 dM a1.Us (kk:= .i64) (j:=xV) (by kernel_rfl) (by kernel_rfl) T9 rfl (by kernel_rfl) (by kernel_rfl)) (zL 1 2 (zK (zS (zL 1 1 ?_)))))
 refine zO (v:=(dI ((a1.Us rZ).toNat:Int))) (aH:= []) (some 20) 2 (.xY .i64 (tm 19)) (yD (kk:= .u8) (a:=((a1.Us rZ).toNat:Int)) (by kernel_rfl) (AB _)) (ak hS (fun mj yX hS=>zO (some 21) 3 (c1 101 20) (aW (VI (d-1) (bO hd rfl) ((a1.Us rZ).toNat:Int) mj yX)) (zL 1 4 (zK ?_))))
 refine sR 22 hS (fun hS=>?_) (fun hS=>?_)
 ·refine zT (zS (zL 1 1 (zK ?_)))
  exact aG (cU (bD (au (xU hS hQ))))
 ·refine zF (aJ (cq (aq (aN (zL 2 2 (zE ?_))))))
  exact au (gC hS hQ)
def RN(a1:dm)(lz:Int)(lH:Bool):St:=⟨(up (up (up (up (up u0 17 (dB lH)) 16 (dI lz)) 15 (.agg ((dM.row 256 a1.Us)++ []))) 12 (dI 0)) 11 (BQ a1)),h0⟩
def ry(a1:dm)(lz:Int)(lH:Bool):Option (Int⊕(Unit⊕Int)):=(bif lH then (wN a1 lz) else (some (.inr (.inl ()))))
theorem B5(hd:2≤d)(a1:dm){r:Int⊕(Unit⊕Int)}(hQ:FQ (bS (u7 a1) (AW a1) r) Q)(lz:Int)(lH:Bool)(hS:ry a1 lz lH=some r)(he:aA [11,12,15,16,17] [] [] st=RN a1 lz lH):ZX d Q Yz [] st:=by
 refine aC he ?_
 unfold ry at hS
 refine ay (sR 17 hS (fun hS=>?_) (fun hS=>?_))
 ·exact zT (aJ (aq (NJ hd a1 hQ lz hS (by kernel_rfl))))
 ·exact zF (aC (J:=Fl a1) (by kernel_rfl) (cP (cG (au (iW hS hQ)))))
def wO(a1:dm)(x:Int):Option (Int⊕(Unit⊕Int)):=(bif (decide (x<256)) then (ry a1 x true) else (ry a1 x false))
theorem Zg(hd:2≤d)(a1:dm){r:Int⊕(Unit⊕Int)}(hQ:FQ (bS (u7 a1) (AW a1) r) Q){x:Int}(hS:wO a1 x=some r)(he:u7 a1 x st):ZX d Q YA [] st:=by
 refine aC he ?_
 unfold wO at hS
 refine zS ?_
 refine sB 17 1 (.a_ .lss (tm 16) (ki 256)) hS (fun hS=>?_) (fun hS=>?_)
 ·refine zK ?_
  exact B5 hd a1 hQ x true hS (by kernel_rfl)
 ·refine zK ?_
  exact B5 hd a1 hQ x false hS (by kernel_rfl)
def ahv(a1:dm)(x:Int):St:=⟨(up (up (up (up u0 16 (dI x)) 15 (.agg ((dM.row 256 a1.qU)++ []))) 12 (dI 1)) 11 (BQ a1)),h0⟩
def u9(a1:dm)(x:Int)(st:St):Prop:=aA [11,12,15,16] [] [] st=ahv a1 x
def Fm(a1:dm):St:=⟨(up (up u0 12 (dI 1)) 11 (BQ a1)),h0⟩
def AX(a1:dm)(z:Unit⊕Int)(e:PX)(st:St):Prop:=(match z with | .inl z=>e= .exit 2∧st=Fm a1 | .inr z=>e= .ret∧dZ Q7.fin st=Mc z)
def RO(a1:dm)(nB:Int):St:=⟨(up (up (up (up u0 16 (dI nB)) 15 (.agg ((dM.row 256 a1.qU)++ []))) 12 (dI 1)) 11 (BQ a1)),h0⟩
def wP(a1:dm)(nB:Int):Option (Int⊕(Unit⊕Int)):=((iJ nB 256).bind fun m33=>((f101 ((a1.qU m33).toNat:Int)).bind fun Fj=>(bif (!Fj) then (some (.inr (.inr 4))) else (some (.inl (IntKind.i64.wrap (nB+1)))))))
theorem NK(hd:2≤d)(a1:dm){r:Int⊕(Unit⊕Int)}(hQ:FQ (bS (u9 a1) (AX a1) r) Q)(nB:Int)(hS:wP a1 nB=some r)(he:aA [11,12,15,16] [] [] st=RO a1 nB):ZX d Q Yy [] st:=by
 refine aC he ?_
 unfold wP at hS
 refine ay (bF (zS ?_))
 refine ak hS (fun m33 aBd hS=>zO (v:=(.d (.int .u8 ((a1.qU m33).toNat:Int)))) (aH:= []) (some 18) 1 (.M_ .false 256 1 (tm 15) (tm 16)) (I5 dM a1.qU (kk:= .i64) (j:=nB) (by kernel_rfl) (by kernel_rfl) aBd rfl (by kernel_rfl) (by kernel_rfl)) (zL 1 2 (zK (zS (zL 1 1 ?_)))))
 refine zO (v:=(dI ((a1.qU m33).toNat:Int))) (aH:= []) (some 20) 2 (.xY .i64 (tm 19)) (yD (kk:= .u8) (a:=((a1.qU m33).toNat:Int)) (by kernel_rfl) (AB _)) (ak hS (fun Fj Io hS=>zO (some 21) 3 (c1 101 20) (aW (VI (d-1) (bO hd rfl) ((a1.qU m33).toNat:Int) Fj Io)) (zL 1 4 (zK ?_))))
 refine sR 22 hS (fun hS=>?_) (fun hS=>?_)
 ·refine zT (zS (zL 1 1 (zK ?_)))
  exact aG (cU (bD (au (xU hS hQ))))
 ·refine zF (aJ (cq (aq (aN (zL 2 2 (zE ?_))))))
  exact au (gC hS hQ)
def RP(a1:dm)(iD:Int)(lp:Bool):St:=⟨(up (up (up (up (up u0 17 (dB lp)) 16 (dI iD)) 15 (.agg ((dM.row 256 a1.qU)++ []))) 12 (dI 1)) 11 (BQ a1)),h0⟩
def rz(a1:dm)(iD:Int)(lp:Bool):Option (Int⊕(Unit⊕Int)):=(bif lp then (wP a1 iD) else (some (.inr (.inl ()))))
theorem B7(hd:2≤d)(a1:dm){r:Int⊕(Unit⊕Int)}(hQ:FQ (bS (u9 a1) (AX a1) r) Q)(iD:Int)(lp:Bool)(hS:rz a1 iD lp=some r)(he:aA [11,12,15,16,17] [] [] st=RP a1 iD lp):ZX d Q Yz [] st:=by
 refine aC he ?_
 unfold rz at hS
 refine ay (sR 17 hS (fun hS=>?_) (fun hS=>?_))
 ·exact zT (aJ (aq (NK hd a1 hQ iD hS (by kernel_rfl))))
 ·exact zF (aC (J:=Fm a1) (by kernel_rfl) (cP (cG (au (iW hS hQ)))))
def wQ(a1:dm)(x:Int):Option (Int⊕(Unit⊕Int)):=(bif (decide (x<256)) then (rz a1 x true) else (rz a1 x false))
theorem Zh(hd:2≤d)(a1:dm){r:Int⊕(Unit⊕Int)}(hQ:FQ (bS (u9 a1) (AX a1) r) Q){x:Int}(hS:wQ a1 x=some r)(he:u9 a1 x st):ZX d Q YA [] st:=by
 refine aC he ?_
 unfold wQ at hS
 refine zS ?_
 refine sB 17 1 (.a_ .lss (tm 16) (ki 256)) hS (fun hS=>?_) (fun hS=>?_)
 ·refine zK ?_
  exact B7 hd a1 hQ x true hS (by kernel_rfl)
 ·refine zK ?_
  exact B7 hd a1 hQ x false hS (by kernel_rfl)
def ahx(a1:dm):St:=⟨(up (up u0 12 (dI 1)) 11 (BQ a1)),h0⟩
def Jv(a1:dm):Option (Int):=((bR (wQ a1) 0).bind fun tX=>(Sum.elim (fun xW=>(some 0)) (fun z37=>(some z37)) tX))
theorem Zi(hd:2≤d)(a1:dm){r:Int}(hQ:FQ (Zf r) Q)(hS:Jv a1=some r)(he:aA [11,12] [] [] st=ahx a1):ZX d Q YB [.seq YC,.blk 0,.seq YD] st:=by
 refine aC he ?_
 unfold Jv at hS
 refine ay (bF (zS (zL 3 3 (zK (zS (zL 2 2 (zK ?_)))))))
 refine bF (ak hS (fun tX Me hS=>dD (u9 a1) (AX a1) (fun x st r Q h0 hS hQ=>Zh hd a1 hQ hS h0) (x:=0) (z:=tX) (by show aA _ _ _ _=_;kernel_rfl) Me ?_))
 rcases tX with xW | z37
 ·replace hS:=(show _=_ from hS)
  simp only [IJ] at hS
  intro e bX _ hX
  obtain ⟨rfl,rfl⟩:_∧_:=hX
  refine cQ (cq (aq (aN (zL 2 2 (zK ?_)))))
  refine jI (zS (zL 1 1 (zK (ay (zF ?_)))))
  refine cP (cG (cG (cQ (aq (zS (zL 1 1 (zK ?_)))))))
  exact aG (au (aM hS hQ (fR (Md 0))))
 ·simp only [IK] at hS
  intro e bX _ hX
  obtain ⟨rfl,hX⟩:_∧_:=hX
  exact cU (cU (bD (bD (cU (bD (au (aM hS hQ (ko (by kernel_rfl) ((congrArg (fun s=>bA s 0 Q7.res) hX).trans (Md z37))))))))))
def ahy(a1:dm):St:=⟨(up (up u0 12 (dI 0)) 11 (BQ a1)),h0⟩
def Jw(a1:dm):Option (Int):=((bR (wO a1) 0).bind fun jS=>(Sum.elim (fun z31=>(Jv a1)) (fun sg=>(some sg)) jS))
theorem Zj(hd:2≤d)(a1:dm){r:Int}(hQ:FQ (Zf r) Q)(hS:Jw a1=some r)(he:aA [11,12] [] [] st=ahy a1):ZX d Q YB [.seq YC,.blk 0,.seq YD] st:=by
 refine aC he ?_
 unfold Jw at hS
 refine ay (bF (zS (zL 3 3 (zK (zS (zL 2 2 (zK ?_)))))))
 refine bF (ak hS (fun jS yY hS=>dD (u7 a1) (AW a1) (fun x st r Q h0 hS hQ=>Zg hd a1 hQ hS h0) (x:=0) (z:=jS) (by show aA _ _ _ _=_;kernel_rfl) yY ?_))
 rcases jS with z31 | sg
 ·replace hS:=(show _=_ from hS)
  simp only [IJ] at hS
  intro e bX _ hX
  obtain ⟨rfl,rfl⟩:_∧_:=hX
  refine cQ (cq (aq (aN (zL 2 2 (zK ?_)))))
  refine jI (zS (zL 1 1 (zK (ay (zT ?_)))))
  exact aJ (aq (Zi hd a1 hQ hS (by kernel_rfl)))
 ·simp only [IK] at hS
  intro e bX _ hX
  obtain ⟨rfl,hX⟩:_∧_:=hX
  exact cU (cU (bD (bD (cU (bD (au (aM hS hQ (ko (by kernel_rfl) ((congrArg (fun s=>bA s 0 Q7.res) hX).trans (Md sg))))))))))
def f56(a1:dm):Option (Int):=(Jw a1)
theorem au3(d:Nat)(hd:2≤d)(a1:dm)(r:Int)(hS:f56 a1=some r):cg az bE d 56 [(.agg ((dM.row 256 a1.Us)++((dM.row 256 a1.qU)++(((dR .u64).row 4 a1.fO)++(((dR .u64).row 4 a1.eB)++ [])))))] []=some ((dI r),[]):=by
 refine dN hd (fun Q hQ=>?_) ao6
 unfold f56 at hS
 show ZR _ Q amS [] _
 replace hQ:FQ (Zf r) Q:=hQ
 refine zS (zL 2 2 (zK (ay (zS (zL 6 6 (zK ?_))))))
 refine bF (jI (zS (zL 1 1 (zK (ay (zT ?_))))))
 exact aJ (aq (Zj hd a1 hQ hS (by kernel_rfl)))
/- farwriter/slc.Check -/
def aqp:St:=⟨(up u0 2 (dI 0)),h0⟩
theorem aqq:bA (aqp) 0 c57.res=some ((dI 0),[]):=by
 kernel_rfl
def aqr(r:Unit)(e:PX)(st:St):Prop:=bh c57 0 ((dI 0),[]) e st
def ahz(a1:di):St:=⟨(up u0 1 (pt 16)),(Uv a1)⟩
def RQ(a1:di):Option (Unit):=(bif (!decide (((a1.jd 0).toNat:Int)=0)) then none else (bif (!decide (((a1.tS 0).toNat:Int)=0)) then none else (some ())))
theorem Zk(hd:1≤d)(a1:di){r:Unit}(hQ:FQ (aqr r) Q)(hS:RQ a1=some r)(he:aA [1] [(16,.id 16)] [] st=ahz a1):ZX d Q amW [] st:=by
 refine aC he ?_
 unfold RQ at hS
 refine ay (zS (zL 3 3 ?_))
 refine sB 16 4 (.a_ .neq (tm 15) (.const (.int .u8 0))) hS (fun hS=>?_) (fun hS=>?_)
 ·cases hS
 ·refine zL 4 8 (sH 21 9 17 false (.a_ .neq (tm 20) (.const (.int .u8 0))) hS (fun hS=>?_) (fun hS=>?_))
  ·cases hS
  ·refine zL 1 10 (zK (zF ?_))
   refine aJ (aq (zS (zL 1 1 (zK ?_))))
   exact aG (au (aM hS hQ (fR (aqq))))
def ahA(a1:di)(x:Int):St:=⟨(up (up (up u0 7 (dI x)) 6 (.agg ((dM.row 19 a1.jd)++ []))) 1 (pt 16)),(Uv a1)⟩
def u_(a1:di)(x:Int)(st:St):Prop:=aA [1,6,7] [(16,.id 16)] [] st=ahA a1 x
def Fo(a1:di):St:=⟨(up u0 1 (pt 16)),(Uv a1)⟩
def AY(a1:di)(z:Unit)(e:PX)(st:St):Prop:=e= .exit 0∧st=Fo a1
def RR(a1:di)(iy:Int):St:=⟨(up (up (up u0 7 (dI iy)) 6 (.agg ((dM.row 19 a1.jd)++ []))) 1 (pt 16)),(Uv a1)⟩
def C_(a1:di)(iy:Int):Option (Int⊕Unit):=((iJ iy 19).bind fun m3=>(bif (decide (2<((a1.jd m3).toNat:Int))) then none else (some (.inl (IntKind.i64.wrap (iy+1))))))
theorem NL(hd:1≤d)(a1:di){r:Int⊕Unit}(hQ:FQ (bS (u_ a1) (AY a1) r) Q)(iy:Int)(hS:C_ a1 iy=some r)(he:aA [1,6,7] [(16,.id 16)] [] st=RR a1 iy):ZX d Q amT [] st:=by
 refine aC he ?_
 unfold C_ at hS
 refine ay (bF (zS ?_))
 refine ak hS (fun m3 hm3 hS=>zO (v:=(.d (.int .u8 ((a1.jd m3).toNat:Int)))) (aH:= []) (some 9) 1 (.M_ .false 19 1 (tm 6) (tm 7)) (I5 dM a1.jd (kk:= .i64) (j:=iy) (by kernel_rfl) (by kernel_rfl) hm3 rfl (by kernel_rfl) (by kernel_rfl)) (zL 1 2 (zK (zS (zL 1 1 ?_)))))
 refine sB 11 2 (.a_ .gtr (tm 10) (.const (.int .u8 2))) hS (fun hS=>?_) (fun hS=>?_)
 ·cases hS
 ·refine zK (zF ?_)
  refine aJ (cq (aq (aN (zL 2 2 (zE ?_)))))
  exact au (gC hS hQ)
def RS(a1:di)(p9:Int)(jt:Bool):St:=⟨(up (up (up (up u0 8 (dB jt)) 7 (dI p9)) 6 (.agg ((dM.row 19 a1.jd)++ []))) 1 (pt 16)),(Uv a1)⟩
def wR(a1:di)(p9:Int)(jt:Bool):Option (Int⊕Unit):=(bif jt then (C_ a1 p9) else (some (.inr ())))
theorem B8(hd:1≤d)(a1:di){r:Int⊕Unit}(hQ:FQ (bS (u_ a1) (AY a1) r) Q)(p9:Int)(jt:Bool)(hS:wR a1 p9 jt=some r)(he:aA [1,6,7,8] [(16,.id 16)] [] st=RS a1 p9 jt):ZX d Q amU [] st:=by
 refine aC he ?_
 unfold wR at hS
 refine ay (sR 8 hS (fun hS=>?_) (fun hS=>?_))
 ·exact zT (aJ (aq (NL hd a1 hQ p9 hS (by kernel_rfl))))
 ·exact zF (aC (J:=Fo a1) (by kernel_rfl) (cP (cG (au (iW hS hQ)))))
def RT(a1:di)(x:Int):Option (Int⊕Unit):=(bif (decide (x<19)) then (wR a1 x true) else (wR a1 x false))
theorem Zl(hd:1≤d)(a1:di){r:Int⊕Unit}(hQ:FQ (bS (u_ a1) (AY a1) r) Q){x:Int}(hS:RT a1 x=some r)(he:u_ a1 x st):ZX d Q amV [] st:=by
 refine aC he ?_
 unfold RT at hS
 refine zS ?_
 refine sB 8 1 (.a_ .lss (tm 7) (ki 19)) hS (fun hS=>?_) (fun hS=>?_)
 ·refine zK ?_
  exact B8 hd a1 hQ x true hS (by kernel_rfl)
 ·refine zK ?_
  exact B8 hd a1 hQ x false hS (by kernel_rfl)
def f57(a1:di):Option (Unit):=((bR (RT a1) 0).bind fun z4=>(RQ a1))
theorem au4(d:Nat)(hd:1≤d)(a1:di)(r:Unit)(hS:f57 a1=some r):cg az bE d 57 [(.agg ((dM.row 19 a1.jd)++((dM.row 19 a1.tS)++ [])))] []=some ((dI 0),[]):=by
 refine dN hd (fun Q hQ=>?_) ao7
 unfold f57 at hS
 show ZR _ Q amX [] _
 replace hQ:FQ (aqr r) Q:=hQ
 refine zS (zL 2 2 (zK (ay (zS (zL 3 3 (zK ?_))))))
 refine bF (ak hS (fun z4 jR hS=>dD (u_ a1) (AY a1) (fun x st r Q h0 hS hQ=>Zl hd a1 hQ hS h0) (x:=0) (z:=z4) (by show aA _ _ _ _=_;kernel_rfl) jR ?_))
 intro e bX _ hX
 obtain ⟨rfl,rfl⟩:_∧_:=hX
 exact cQ (aq (Zk hd a1 hQ hS (by kernel_rfl)))
/- farwriter/line.Check -/
def aqs:St:=⟨(up u0 2 (dI 0)),h0⟩
theorem aqt:bA (aqs) 0 c58.res=some ((dI 0),[]):=by
 kernel_rfl
def ayU(r:Unit)(e:PX)(st:St):Prop:=bh c58 0 ((dI 0),[]) e st
def f58(a1:dw):Option (Unit):=(bif (decide (1024≤(a1.oZ.length:Int))) then none else (some ()))
theorem au5(d:Nat)(hd:1≤d)(a1:dw)(r:Unit)(hS:f58 a1=some r):cg az bE d 58 [(.agg ((.d (.str a1.oZ))::((dB a1.Quote):: [])))] []=some ((dI 0),[]):=by
 refine dN hd (fun Q hQ=>?_) ao8
 unfold f58 at hS
 show ZR _ Q amZ [] _
 replace hQ:FQ (ayU r) Q:=hQ
 refine zS (zL 2 2 (zK (ay (zS (zL 3 3 ?_)))))
 refine sB 6 4 (.a_ .geq (tm 5) (ki 1024)) hS (fun hS=>?_) (fun hS=>?_)
 ·cases hS
 ·refine zK (zF ?_)
  refine aJ (aq (zS (zL 1 1 (zK ?_))))
  exact aG (au (aM hS hQ (fR (aqt))))
end
end Go.Proofs.YtobkkblijfhpoaaGreatDoor.Pm
