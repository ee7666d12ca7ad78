/- Typed functions, and that the codes are these. Printed by dec.py. -/
import Derived.Test.YtobkkblijfhpoaaGreatDoorDCpG
namespace Go.Proofs.YtobkkblijfhpoaaGreatDoor.Pm
noncomputable section
set_option maxRecDepth 1000000
set_option maxHeartbeats 20000000
set_option linter.unusedVariables false
set_option linter.unusedSimpArgs false
variable {d : Nat} {Q : PQ} {st : St}
/- farwriter/screen.Run -/
def aim(lz:ah)(lH:S8):St:=⟨(up (up (up u0 6 (dI 0)) 5 (.d (.str lH))) 4 (pt 40)),(Ih h0 lz 40 224 225 226)⟩
theorem ain(lz:ah)(lH:S8):bA (aim lz lH) 0 U8.res=some ((.bZ [(.agg (iT lz)),(.d (.str lH)),(dI 0)]),[]):=by
 exact fK (ids:= []) (ids':= [224,225,226]) (l:= [(.agg (cM lz 224 0 225 0 226 0)),(.d (.str lH)),(dI 0)]) (by kernel_rfl) (by kernel_rfl) (CS (aX (GN (aX rfl (aX rfl (aX (fU ag (e:=100) (k:=4) (xs:=lz.aT.Cells) (by kernel_rfl) rfl rfl rfl rfl) (aX rfl (aX rfl (aX rfl (aX rfl (aX rfl (aX rfl (aX rfl (aX rfl (aX rfl (XL (XM (dR .u64)) (aX rfl (aX rfl (aX rfl (aX rfl (aX rfl (aX rfl (aX rfl (aX rfl (aX rfl (aX rfl (aX rfl (aX rfl (aX rfl (aX rfl (aX (fU ag (e:=100) (k:=4) (xs:=lz.bT.Cells) (by kernel_rfl) rfl rfl rfl rfl) (aX rfl (aX (fU bJ (e:=91) (k:=1) (xs:=lz.cD) (by kernel_rfl) rfl rfl rfl rfl) nZ))))))))))))))))))))))))))))))) (aX rfl (aX rfl nZ))))
def Jy(r:ah×S8)(e:PX)(st:St):Prop:=bh U8 0 ((.bZ [(.agg (iT r.1)),(.d (.str r.2)),(dI 0)]),[]) e st
def ZW(a1:ah)(a2:List aP)(gF:aB):St:=⟨(up (up u0 9 (pt 240)) 4 (pt 40)),(jW gF)⟩
def FR(a1:ah)(a2:List aP)(gF:aB):Option (ah×S8):=(some (gF.af,gF.sent))
theorem Wc(hd:11≤d)(a1:ah)(a2:List aP){r:ah×S8}(hQ:FQ (Jy r) Q)(gF:aB)(hS:FR a1 a2 gF=some r)(he:aA [4,9] [(40,.id 40),(240,.id 240),(224,.id 224),(225,.id 225),(226,.id 226)] [] st=ZW a1 a2 gF):ZX d Q ady [] st:=by
 refine aC he ?_
 unfold FR at hS
 exact ay (ez (dx 11 11 (iC (aq (aG (au (aM hS hQ (fR (ain gF.af gF.sent)))))))))
def ZY(a1:ah)(a2:List aP)(x:aB×Int):St:=⟨(up (up (up (up (up u0 32 (dI x.2)) 31 (dI (a2.length:Int))) 30 (dE bN a2)) 9 (pt 240)) 4 (pt 40)),(jW x.1)⟩
def rP(a1:ah)(a2:List aP)(x:aB×Int)(st:St):Prop:=aA [4,9,30,31,32] [(40,.id 40),(240,.id 240),(224,.id 224),(225,.id 225),(226,.id 226)] [] st=ZY a1 a2 x
def Cp(a1:ah)(a2:List aP)(vu:aB):St:=⟨(up (up u0 9 (pt 240)) 4 (pt 40)),(jW vu)⟩
def xg(a1:ah)(a2:List aP)(z:aB)(e:PX)(st:St):Prop:=e= .exit 0∧st=Cp a1 a2 z
def N5(a1:ah)(a2:List aP)(mS:aB)(fL:Int):St:=⟨(up (up (up (up (up u0 32 (dI fL)) 31 (dI (a2.length:Int))) 30 (dE bN a2)) 9 (pt 240)) 4 (pt 40)),(jW mS)⟩
def tA(a1:ah)(a2:List aP)(mS:aB)(fL:Int):Option ((aB×Int)⊕aB):=((idx a2 fL).bind fun iw=>((f210 iw mS).bind fun z20=>(some (.inl (z20,(IntKind.i64.wrap (fL+1)))))))
theorem MA(hd:11≤d)(a1:ah)(a2:List aP){r:(aB×Int)⊕aB}(hQ:FQ (bS (rP a1 a2) (xg a1 a2) r) Q)(mS:aB)(fL:Int)(hS:tA a1 a2 mS fL=some r)(he:aA [4,9,30,31,32] [(40,.id 40),(240,.id 240),(224,.id 224),(225,.id 225),(226,.id 226)] [] st=N5 a1 a2 mS fL):ZX d Q adv [] st:=by
 refine aC he ?_
 unfold tA at hS
 refine ay (bF (zS ?_))
 refine ak hS (fun iw oQ hS=>zO (v:=(.cS (bN.enc iw++(bN.cells (a2.drop ((fL:Int).toNat+1)))))) (aH:= []) (some 34) 1 (.fQ 81 6 (tm 30) (tm 32)) (eE bN (kk:= .i64) (xs:=a2) (j:=fL) (by kernel_rfl) (by kernel_rfl) oQ rfl (by intro h;cases h)) (zL 3 4 (zK (aN (zL 2 2 ?_)))))
 refine ak hS (fun z20 oO hS=>zO (some 38) 3 (.er 210 [(tm 36),(tm 37)]) (mg [240,224,225,226] (aq5 (d-1) (bO hd rfl) iw mS z20 oO)) (zE (cq (aq (aN (zL 2 2 (zE ?_)))))))
 exact au (gC hS hQ)
def N6(a1:ah)(a2:List aP)(FJ:aB)(pJ:Int)(lG:Bool):St:=⟨(up (up (up (up (up (up u0 33 (dB lG)) 32 (dI pJ)) 31 (dI (a2.length:Int))) 30 (dE bN a2)) 9 (pt 240)) 4 (pt 40)),(jW FJ)⟩
def mQ(a1:ah)(a2:List aP)(FJ:aB)(pJ:Int)(lG:Bool):Option ((aB×Int)⊕aB):=(bif lG then (tA a1 a2 FJ pJ) else (some (.inr FJ)))
theorem Ab(hd:11≤d)(a1:ah)(a2:List aP){r:(aB×Int)⊕aB}(hQ:FQ (bS (rP a1 a2) (xg a1 a2) r) Q)(FJ:aB)(pJ:Int)(lG:Bool)(hS:mQ a1 a2 FJ pJ lG=some r)(he:aA [4,9,30,31,32,33] [(40,.id 40),(240,.id 240),(224,.id 224),(225,.id 225),(226,.id 226)] [] st=N6 a1 a2 FJ pJ lG):ZX d Q adw [] st:=by
 refine aC he ?_
 unfold mQ at hS
 refine ay (sR 33 hS (fun hS=>?_) (fun hS=>?_))
 ·exact zT (aJ (aq (MA hd a1 a2 hQ FJ pJ hS (by kernel_rfl))))
 ·exact zF (aC (J:=Cp a1 a2 FJ) (by kernel_rfl) (cP (cG (au (iW hS hQ)))))
def rQ(a1:ah)(a2:List aP)(x:aB×Int):Option ((aB×Int)⊕aB):=(bif (decide (x.2<(a2.length:Int))) then (mQ a1 a2 x.1 x.2 true) else (mQ a1 a2 x.1 x.2 false))
theorem We(hd:11≤d)(a1:ah)(a2:List aP){r:(aB×Int)⊕aB}(hQ:FQ (bS (rP a1 a2) (xg a1 a2) r) Q){x:aB×Int}(hS:rQ a1 a2 x=some r)(he:rP a1 a2 x st):ZX d Q adx [] st:=by
 refine aC he ?_
 unfold rQ at hS
 refine zS ?_
 refine sB 33 1 (.a_ .lss (tm 32) (tm 31)) hS (fun hS=>?_) (fun hS=>?_)
 ·refine zK ?_
  exact Ab hd a1 a2 hQ x.1 x.2 true hS (by kernel_rfl)
 ·refine zK ?_
  exact Ab hd a1 a2 hQ x.1 x.2 false hS (by kernel_rfl)
def ZZ(a1:ah)(a2:List aP):St:=⟨(up (up (up u0 4 (pt 40)) 2 (pt 24)) 1 (dE bN a2)),(up (up h0 40 jq) 24 ⟨0,some (.box (av a1))⟩)⟩
def FT(a1:ah)(a2:List aP):Option (ah×S8):=((f59 a1).bind fun z12=>((bR (rQ a1 a2) ((aB.mk z12 ([])),0)).bind fun z21=>(FR a1 a2 z21)))
theorem Wf(hd:11≤d)(a1:ah)(a2:List aP){r:ah×S8}(hQ:FQ (Jy r) Q)(hS:FT a1 a2=some r)(he:aA [1,2,4] [(24,.id 24),(40,.id 40)] [] st=ZZ a1 a2):ZX d Q adz [] st:=by
 refine aC he ?_
 unfold FT at hS
 refine zS (zL 1 1 ?_)
 refine ak hS (fun z12 iz hS=>zO (v:=(.agg (cM z12 224 1 225 1 226 1))) (aH:= [(224,⟨1,some (bP z12)⟩),(225,⟨1,some (bU z12)⟩),(226,⟨1,some (cA z12)⟩)]) (some 27) 2 (.eR 59 [(tm 26)]) (dP (args:= [(.agg (av a1))]) (args':= [(.agg (av a1))]) (l:= [(.agg (av a1))]) (refs:= []) (r:=(.agg (iT z12))) (v:=(.agg (cM z12 224 1 225 1 226 1))) (gN:= [(224,⟨1,some (bP z12)⟩),(225,⟨1,some (bU z12)⟩),(226,⟨1,some (cA z12)⟩)]) (by kernel_rfl) (by kernel_rfl) (by kernel_rfl) (aY rfl eU) (by kernel_rfl) (aea (d-1) (bO hd rfl) a1 z12 iz) (by kernel_rfl) (by kernel_rfl) (by kernel_rfl) (by kernel_rfl)) (zL 3 5 (zK (ay (zS (zL 3 3 (zK ?_)))))))
 refine bF (ak hS (fun z21 qY hS=>dD (rP a1 a2) (xg a1 a2) (fun x st r Q h0 hS hQ=>We hd a1 a2 hQ hS h0) (x:=((aB.mk z12 ([])),0)) (z:=z21) (by show aA _ _ _ _=_;kernel_rfl) qY ?_))
 intro e bX _ hX
 obtain ⟨rfl,rfl⟩:_∧_:=hX
 exact cQ (aq (Wc hd a1 a2 hQ z21 hS (by kernel_rfl)))
def Z1(a1:ah)(a2:List aP):St:=⟨(up (up (up u0 4 (pt 40)) 2 (pt 24)) 1 (dE bN a2)),(up (up h0 40 jq) 24 ⟨0,some (.box (av a1))⟩)⟩
def FU(a1:ah)(a2:List aP):Option (ah×S8):=((f209 a2).bind fun z22=>(FT a1 a2))
theorem Wh(hd:11≤d)(a1:ah)(a2:List aP){r:ah×S8}(hQ:FQ (Jy r) Q)(hS:FU a1 a2=some r)(he:aA [1,2,4] [(24,.id 24),(40,.id 40)] [.cell 40 2 0 0 1,.cell 40 30 0 0 1,.cell 40 32 0 0 1] st=Z1 a1 a2):ZX d Q adA [] st:=by
 refine aC he ?_
 unfold FU at hS
 refine ay (zS (zL 1 1 ?_))
 refine ak hS (fun z22 uD hS=>zO (some 20) 2 (c1 209 19) (aW (aqL (d-1) (bO hd rfl) a2 z22 uD)) (zL 1 3 (zK (zS (zL 2 2 (zK (zF ?_)))))))
 exact aJ (aq (Wf hd a1 a2 hQ hS (by kernel_rfl)))
def f161(a1:ah)(a2:List aP):Option (ah×S8):=((f55 a1).bind fun z23=>(FU a1 a2))
theorem aq6(d:Nat)(hd:11≤d)(a1:ah)(a2:List aP)(r:ah×S8)(hS:f161 a1 a2=some r):cg az bE d 161 [(.agg (av a1)),(dE bN a2)] []=some ((.bZ [(.agg (iT r.1)),(.d (.str r.2)),(dI 0)]),[]):=by
 refine dN hd (fun Q hQ=>?_) agh
 unfold f161 at hS
 show ZR _ Q adB [] _
 replace hQ:FQ (Jy r) Q:=hQ
 refine zS (zL 4 4 (zK (ay (zS (zL 1 1 ?_)))))
 refine ak hS (fun z23 qJ hS=>zO (some 13) 2 (c1 55 12) (aW (ad_ (d-1) (bO hd rfl) a1 z23 qJ)) (zL 1 3 (zK (zS (zL 2 2 (zK (zF ?_)))))))
 exact aJ (aq (Wh hd a1 a2 hQ hS (by kernel_rfl)))
/- (*farwriter/client.worker).data -/
def PK(p5:aF):St:=⟨u0,(up h0 0 ⟨0,some (qV p5)⟩)⟩
theorem aio(p5:aF):bA (PK p5) 1 LJ.res=some ((.bZ []),[(qV p5)]):=by
 kernel_rfl
def R3(r:aF)(e:PX)(st:St):Prop:=bh LJ 1 ((.bZ []),[(qV r)]) e st
def Z2(a1:S8)(a2:aF)(p8:aF)(p9:List aP):St:=⟨(up (up u0 5 (dE bN p9)) 0 (pt 0)),(up h0 0 ⟨0,some (qV p8)⟩)⟩
def FV(a1:S8)(a2:aF)(p8:aF)(p9:List aP):Option (aF):=((f161 p8.Client.af p9).bind fun cO=>(bif (!decide (cO.2=([]:S8))) then none else (some (aF.mk ({p8.Client with af:=cO.1}) p8.sent))))
theorem Wi(hd:12≤d)(a1:S8)(a2:aF){r:aF}(hQ:FQ (R3 r) Q)(p8:aF)(p9:List aP)(hS:FV a1 a2 p8 p9=some r)(he:aA [0,5] [(0,.id 0)] [] st=Z2 a1 a2 p8 p9):ZX d Q adC [] st:=by
 refine aC he ?_
 unfold FV at hS
 refine zS (zL 7 7 ?_)
 refine ak hS (fun cO jn hS=>zO (v:=(.bZ [(.agg (cM cO.1 496 1 497 1 498 1)),(.d (.str cO.2)),(dI 0)])) (aH:= [(496,⟨1,some (bP cO.1)⟩),(497,⟨1,some (bU cO.1)⟩),(498,⟨1,some (cA cO.1)⟩)]) (some 61) 8 (.eR 161 [(tm 59),(tm 60)]) (dP (args:= [(.agg (av p8.Client.af)),(dE bN p9)]) (args':= [(.agg (av p8.Client.af)),(dE bN p9)]) (l:= [(.agg (av p8.Client.af)),(dE bN p9)]) (refs:= []) (r:=(.bZ [(.agg (iT cO.1)),(.d (.str cO.2)),(dI 0)])) (v:=(.bZ [(.agg (cM cO.1 496 1 497 1 498 1)),(.d (.str cO.2)),(dI 0)])) (gN:= [(496,⟨1,some (bP cO.1)⟩),(497,⟨1,some (bU cO.1)⟩),(498,⟨1,some (cA cO.1)⟩)]) (by kernel_rfl) (by kernel_rfl) (by kernel_rfl) (aY rfl (aY rfl eU)) (by kernel_rfl) (aq6 (d-1) (bO hd rfl) p8.Client.af p9 cO jn) (by kernel_rfl) (by kernel_rfl) (by kernel_rfl) (by kernel_rfl)) (zL 9 17 (zK (zS (zL 1 1 ?_)))))
 refine sB 69 2 (.lI .neq (tm 68) (.const (.string ⟨#[]⟩))) hS (fun hS=>?_) (fun hS=>?_)
 ·cases hS
 ·refine zK (zF ?_)
  exact aJ (au (aM hS hQ (XF (by kernel_rfl) ((congrArg (fun s=>bA s 1 LJ.res) (by exact (by kernel_rfl:_=(⟨u0,(up h0 0 ⟨0,some (.box (sP (aF.mk (aL.mk ((aF.mk ({p8.Client with af:=cO.1}) p8.sent).Client.gj) ((aF.mk ({p8.Client with af:=cO.1}) p8.sent).Client.Cr) ((aF.mk ({p8.Client with af:=cO.1}) p8.sent).Client.Part) ((aF.mk ({p8.Client with af:=cO.1}) p8.sent).Client.Psr) (ah.mk (aV.mk ((aF.mk ({p8.Client with af:=cO.1}) p8.sent).Client.af.aT.bV) ((aF.mk ({p8.Client with af:=cO.1}) p8.sent).Client.af.aT.cC) cO.1.aT.Cells) ((aF.mk ({p8.Client with af:=cO.1}) p8.sent).Client.af.Row) ((aF.mk ({p8.Client with af:=cO.1}) p8.sent).Client.af.dS) ((aF.mk ({p8.Client with af:=cO.1}) p8.sent).Client.af.eL) ((aF.mk ({p8.Client with af:=cO.1}) p8.sent).Client.af.jo) ((aF.mk ({p8.Client with af:=cO.1}) p8.sent).Client.af.dy) ((aF.mk ({p8.Client with af:=cO.1}) p8.sent).Client.af.bM) ((aF.mk ({p8.Client with af:=cO.1}) p8.sent).Client.af.gD) ((aF.mk ({p8.Client with af:=cO.1}) p8.sent).Client.af.gU) ((aF.mk ({p8.Client with af:=cO.1}) p8.sent).Client.af.bY) ((aF.mk ({p8.Client with af:=cO.1}) p8.sent).Client.af.dF) ((aF.mk ({p8.Client with af:=cO.1}) p8.sent).Client.af.aR) (aV.mk ((aF.mk ({p8.Client with af:=cO.1}) p8.sent).Client.af.bT.bV) ((aF.mk ({p8.Client with af:=cO.1}) p8.sent).Client.af.bT.cC) cO.1.bT.Cells) ((aF.mk ({p8.Client with af:=cO.1}) p8.sent).Client.af.iF) cO.1.cD) ((aF.mk ({p8.Client with af:=cO.1}) p8.sent).Client.Neg) ((aF.mk ({p8.Client with af:=cO.1}) p8.sent).Client.cy) ((aF.mk ({p8.Client with af:=cO.1}) p8.sent).Client.Vars) ((aF.mk ({p8.Client with af:=cO.1}) p8.sent).Client.Keys) ((aF.mk ({p8.Client with af:=cO.1}) p8.sent).Client.Mask) ((aF.mk ({p8.Client with af:=cO.1}) p8.sent).Client.jE) ((aF.mk ({p8.Client with af:=cO.1}) p8.sent).Client.Ie)) ((aF.mk ({p8.Client with af:=cO.1}) p8.sent).sent)) (.d (.sl cO.1.aT.Cells.length (((ag.cells cO.1.aT.Cells).drop (0*ag.k)).take (cO.1.aT.Cells.length*ag.k)))) (.d (.sl cO.1.bT.Cells.length (((ag.cells cO.1.bT.Cells).drop (0*ag.k)).take (cO.1.bT.Cells.length*ag.k)))) (.d (.sl cO.1.cD.length (((bJ.cells cO.1.cD).drop (0*bJ.k)).take (cO.1.cD.length*bJ.k)))) (.d (.sl ((aF.mk ({p8.Client with af:=cO.1}) p8.sent).Client.cy.Names).length (eu.cells ((aF.mk ({p8.Client with af:=cO.1}) p8.sent).Client.cy.Names)))) (.d (.sl ((aF.mk ({p8.Client with af:=cO.1}) p8.sent).Client.Vars).length (ep.cells ((aF.mk ({p8.Client with af:=cO.1}) p8.sent).Client.Vars))))))⟩)⟩:St)).trans (by simp only [dJ.II];kernel_rfl):dZ LJ.fin _=PK (aF.mk ({p8.Client with af:=cO.1}) p8.sent))).trans (aio (aF.mk ({p8.Client with af:=cO.1}) p8.sent))))))
def Z3(a1:S8)(a2:aF)(p6:aF)(p7:List Int):St:=⟨(up (up u0 4 (dL p7)) 0 (pt 0)),(up h0 0 ⟨0,some (qV p6)⟩)⟩
def FW(a1:S8)(a2:aF)(p6:aF)(p7:List Int):Option (aF):=((f160 p6.Client.Psr p7).bind fun z9=>(FV a1 a2 (aF.mk ({p6.Client with Psr:=z9.1}) p6.sent) z9.2))
theorem Wj(hd:12≤d)(a1:S8)(a2:aF){r:aF}(hQ:FQ (R3 r) Q)(p6:aF)(p7:List Int)(hS:FW a1 a2 p6 p7=some r)(he:aA [0,4] [(0,.id 0)] [] st=Z3 a1 a2 p6 p7):ZX d Q adD [] st:=by
 refine aC he ?_
 unfold FW at hS
 refine zS (zL 7 7 ?_)
 refine ak hS (fun z9 zx hS=>zO (v:=(.bZ [(.agg (qW z9.1)),(.r (.aI 376 1 0 z9.2.length)),(dI 0)])) (aH:= [(376,⟨1,some (.own 81 6 (bN.cells z9.2))⟩)]) (some 46) 8 (.eR 160 [(tm 44),(tm 45)]) (dP (args:= [(.agg (qW p6.Client.Psr)),(dL p7)]) (args':= [(.agg (qW p6.Client.Psr)),(dL p7)]) (l:= [(.agg (qW p6.Client.Psr)),(dL p7)]) (refs:= []) (r:=(.bZ [(.agg (qW z9.1)),(.r (.own 0 81 6 z9.2.length (bN.cells z9.2))),(dI 0)])) (v:=(.bZ [(.agg (qW z9.1)),(.r (.aI 376 1 0 z9.2.length)),(dI 0)])) (gN:= [(376,⟨1,some (.own 81 6 (bN.cells z9.2))⟩)]) (by kernel_rfl) (by kernel_rfl) (by kernel_rfl) (aY rfl (aY rfl eU)) (by kernel_rfl) (aqI (d-1) (bO hd rfl) p6.Client.Psr p7 z9 zx) (by kernel_rfl) (by kernel_rfl) (by kernel_rfl) (by kernel_rfl)) (zL 9 17 (zK (zS (zL 1 1 (zK ?_))))))
 exact Wi hd a1 a2 hQ (aF.mk ({p6.Client with Psr:=z9.1}) p6.sent) z9.2 hS (by exact (by kernel_rfl:_=(⟨(up (up u0 5 (.d (.sl z9.2.length (((bN.cells z9.2).drop (0*bN.k)).take (z9.2.length*bN.k))))) 0 (pt 0)),(up h0 0 ⟨0,some (.box (sP (aF.mk ({p6.Client with Psr:=z9.1}) p6.sent) (.d (.sl ((aF.mk ({p6.Client with Psr:=z9.1}) p6.sent).Client.af.aT.Cells).length (ag.cells ((aF.mk ({p6.Client with Psr:=z9.1}) p6.sent).Client.af.aT.Cells)))) (.d (.sl ((aF.mk ({p6.Client with Psr:=z9.1}) p6.sent).Client.af.bT.Cells).length (ag.cells ((aF.mk ({p6.Client with Psr:=z9.1}) p6.sent).Client.af.bT.Cells)))) (.d (.sl ((aF.mk ({p6.Client with Psr:=z9.1}) p6.sent).Client.af.cD).length (bJ.cells ((aF.mk ({p6.Client with Psr:=z9.1}) p6.sent).Client.af.cD)))) (.d (.sl ((aF.mk ({p6.Client with Psr:=z9.1}) p6.sent).Client.cy.Names).length (eu.cells ((aF.mk ({p6.Client with Psr:=z9.1}) p6.sent).Client.cy.Names)))) (.d (.sl ((aF.mk ({p6.Client with Psr:=z9.1}) p6.sent).Client.Vars).length (ep.cells ((aF.mk ({p6.Client with Psr:=z9.1}) p6.sent).Client.Vars))))))⟩)⟩:St)).trans (by simp only [dJ.II];kernel_rfl))
def f103(a1:S8)(a2:aF):Option (aF):=((f107 a2 [] 0).bind fun z6=>((f158 a2.Client.Cr a1 z6).bind fun z7=>((f159 a2.Client.Part z7.2).bind fun z8=>(FW a1 a2 (aF.mk ({a2.Client with Cr:=z7.1,Part:= []}) a2.sent) z8))))
theorem aq7(d:Nat)(hd:12≤d)(a1:S8)(a2:aF)(r:aF)(hS:f103 a1 a2=some r):cg az bE d 103 [(pt 0),(.d (.str a1))] [(qV a2)]=some ((.bZ []),[(qV r)]):=by
 refine dN hd (fun Q hQ=>?_) af0
 unfold f103 at hS
 show ZR _ Q adE [] _
 replace hQ:FQ (R3 r) Q:=hQ
 refine ay (ez (dx 8 8 (ak hS (fun z6 zw hS=>eT (some 16) 9 none (.call 107 [(tm 15),(ki 0)]) (aW (aqC (d-1) (bO hd rfl) a2 [] 0 z6 zw)) (ak hS (fun z7 tW hS=>eT (some 17) 10 none (.call 158 [(tm 13),(tm 14),(tm 16)]) (aW (aqD (d-1) (bO hd rfl) a2.Client.Cr a1 z6 z7 tW)) (dx 8 18 (iC (aq (zS (zL 1 1 (zK (zS (zL 7 7 ?_))))))))))))))
 refine ak hS (fun z8 wC hS=>zO (some 31) 8 (.call 159 [(tm 29),(tm 30)]) (aW (aqF (d-1) (bO hd rfl) a2.Client.Part z7.2 z8 wC)) (zL 9 17 (zK (zS (zL 1 1 (zK ?_))))))
 exact Wj hd a1 a2 hQ (aF.mk ({a2.Client with Cr:=z7.1,Part:= []}) a2.sent) z8 hS (by exact (by kernel_rfl:_=(⟨(up (up u0 4 (.d (.sl z8.length (((eI.cells z8).drop (0*eI.k)).take (z8.length*eI.k))))) 0 (pt 0)),(up h0 0 ⟨0,some (.box (sP (aF.mk ({a2.Client with Cr:=z7.1,Part:= []}) a2.sent) (.d (.sl ((aF.mk ({a2.Client with Cr:=z7.1,Part:= []}) a2.sent).Client.af.aT.Cells).length (ag.cells ((aF.mk ({a2.Client with Cr:=z7.1,Part:= []}) a2.sent).Client.af.aT.Cells)))) (.d (.sl ((aF.mk ({a2.Client with Cr:=z7.1,Part:= []}) a2.sent).Client.af.bT.Cells).length (ag.cells ((aF.mk ({a2.Client with Cr:=z7.1,Part:= []}) a2.sent).Client.af.bT.Cells)))) (.d (.sl ((aF.mk ({a2.Client with Cr:=z7.1,Part:= []}) a2.sent).Client.af.cD).length (bJ.cells ((aF.mk ({a2.Client with Cr:=z7.1,Part:= []}) a2.sent).Client.af.cD)))) (.d (.sl ((aF.mk ({a2.Client with Cr:=z7.1,Part:= []}) a2.sent).Client.cy.Names).length (eu.cells ((aF.mk ({a2.Client with Cr:=z7.1,Part:= []}) a2.sent).Client.cy.Names)))) (.d (.sl ((aF.mk ({a2.Client with Cr:=z7.1,Part:= []}) a2.sent).Client.Vars).length (ep.cells ((aF.mk ({a2.Client with Cr:=z7.1,Part:= []}) a2.sent).Client.Vars))))))⟩)⟩:St)).trans (by simp only [dJ.II];kernel_rfl))
/- (*farwriter/client.worker).bytes -/
def aq8(iD:aF):St:=⟨(up u0 4 (dI 0)),(up h0 0 ⟨0,some (qV iD)⟩)⟩
theorem aq9(iD:aF):bA (aq8 iD) 1 c60.res=some ((dI 0),[(qV iD)]):=by
 kernel_rfl
def aq_(r:aF)(e:PX)(st:St):Prop:=bh c60 1 ((dI 0),[(qV r)]) e st
def aip(a1:S8)(a2:aF)(x:aF×(List cV)×Int×Int):St:=⟨(up (up (up (up u0 31 (dI x.2.2.2)) 30 (dI x.2.2.1)) 29 (.r (.aI 168 0 0 x.2.1.length))) 0 (pt 0)),(up (up h0 168 ⟨0,some (.own 201 4 (eV.cells x.2.1))⟩) 0 ⟨0,some (qV x.1)⟩)⟩
def vw(a1:S8)(a2:aF)(x:aF×(List cV)×Int×Int)(st:St):Prop:=aA [0,29,30,31] [(0,.id 0),(168,.id 168)] [] st=aip a1 a2 x
def FX(a1:S8)(a2:aF)(om:aF):St:=⟨u0,(up h0 0 ⟨0,some (qV om)⟩)⟩
def A3(a1:S8)(a2:aF)(z:aF)(e:PX)(st:St):Prop:=e= .exit 0∧st=FX a1 a2 z
def R4(a1:S8)(a2:aF)(zy:aF)(q8:List cV)(E8:Int)(wH:Int):St:=⟨(up (up (up (up u0 31 (dI wH)) 30 (dI E8)) 29 (.r (.aI 168 0 0 q8.length))) 0 (pt 0)),(up (up h0 168 ⟨0,some (.own 201 4 (eV.cells q8))⟩) 0 ⟨0,some (qV zy)⟩)⟩
def xh(a1:S8)(a2:aF)(zy:aF)(q8:List cV)(E8:Int)(wH:Int):Option ((aF×(List cV)×Int×Int)⊕aF):=((iJ wH q8.length).bind fun m21=>((q8[m21]?).bind fun z22=>(bif (decide (z22.Kind=1)) then ((f103 z22.Data zy).bind fun z23=>(some (.inl (z23,q8,E8,(IntKind.i64.wrap (wH+1)))))) else none)))
theorem N7(hd:13≤d)(a1:S8)(a2:aF){r:(aF×(List cV)×Int×Int)⊕aF}(hQ:FQ (bS (vw a1 a2) (A3 a1 a2) r) Q)(zy:aF)(q8:List cV)(E8:Int)(wH:Int)(hS:xh a1 a2 zy q8 E8 wH=some r)(he:aA [0,29,30,31] [(0,.id 0),(168,.id 168)] [] st=R4 a1 a2 zy q8 E8 wH):ZX d Q anH [] st:=by
 refine aC he ?_
 unfold xh at hS
 refine ay (bF (zS ?_))
 refine ak hS (fun m21 akN hS=>zO (v:=(.r (.ptr 168 0 ((0+m21)*4)))) (aH:= []) (some 33) 1 (.fQ 201 4 (tm 29) (tm 31)) (iK (kk:= .i64) (b:=168) (g:=0) (l:=0) (n:=q8.length) (j:=wH) (cs:=eV.cells q8) (by kernel_rfl) (by kernel_rfl) (by kernel_rfl) akN) (ak hS (fun z22 uD hS=>zO (v:=(.agg ((dI z22.Kind)::((dI z22.G9)::((dI z22.Bp)::((.d (.str z22.Data)):: [])))))) (aH:= []) (some 34) 2 (lt 4 33) (jl eV (b:=168) (g:=0) (o:=(0+m21)*4) (e:=201) (k:=4) (m:=m21) (fo:=0) (xs:=q8) (by kernel_rfl) (by kernel_rfl) (by rw [Nat.zero_add];rfl) uD (by kernel_rfl) (by kernel_rfl) (by kernel_rfl)) (zL 2 4 (zK ?_)))))
 refine bF (zS (zL 2 2 ?_))
 refine sB 38 3 (ck 37 1) hS (fun hS=>?_) (fun hS=>?_)
 ·refine zL 1 4 (zK (zT (aN (zL 3 3 ?_))))
  refine ak hS (fun z23 qJ hS=>zO (some 42) 4 (.er 103 [(tm 39),(tm 41)]) (mg [0] (aq7 (d-1) (bO hd rfl) z22.Data zy z23 qJ)) (zE (cq (cq (aq (aN (zL 2 2 (zE ?_))))))))
  exact au (gC hS hQ)
 ·cases hS
def R5(a1:S8)(a2:aF)(uU:aF)(Br:List cV)(C6:Int)(C7:Int)(Hl:Bool):St:=⟨(up (up (up (up (up u0 32 (dB Hl)) 31 (dI C7)) 30 (dI C6)) 29 (.r (.aI 168 0 0 Br.length))) 0 (pt 0)),(up (up h0 168 ⟨0,some (.own 201 4 (eV.cells Br))⟩) 0 ⟨0,some (qV uU)⟩)⟩
def mA(a1:S8)(a2:aF)(uU:aF)(Br:List cV)(C6:Int)(C7:Int)(Hl:Bool):Option ((aF×(List cV)×Int×Int)⊕aF):=(bif Hl then (xh a1 a2 uU Br C6 C7) else (some (.inr uU)))
theorem Cq(hd:13≤d)(a1:S8)(a2:aF){r:(aF×(List cV)×Int×Int)⊕aF}(hQ:FQ (bS (vw a1 a2) (A3 a1 a2) r) Q)(uU:aF)(Br:List cV)(C6:Int)(C7:Int)(Hl:Bool)(hS:mA a1 a2 uU Br C6 C7 Hl=some r)(he:aA [0,29,30,31,32] [(0,.id 0),(168,.id 168)] [] st=R5 a1 a2 uU Br C6 C7 Hl):ZX d Q anI [] st:=by
 refine aC he ?_
 unfold mA at hS
 refine ay (sR 32 hS (fun hS=>?_) (fun hS=>?_))
 ·exact zT (aJ (aq (N7 hd a1 a2 hQ uU Br C6 C7 hS (by kernel_rfl))))
 ·exact zF (aC (J:=FX a1 a2 uU) (by kernel_rfl) (cP (cG (au (iW hS hQ)))))
def oB(a1:S8)(a2:aF)(x:aF×(List cV)×Int×Int):Option ((aF×(List cV)×Int×Int)⊕aF):=(bif (decide (x.2.2.2<x.2.2.1)) then (mA a1 a2 x.1 x.2.1 x.2.2.1 x.2.2.2 true) else (mA a1 a2 x.1 x.2.1 x.2.2.1 x.2.2.2 false))
theorem Z4(hd:13≤d)(a1:S8)(a2:aF){r:(aF×(List cV)×Int×Int)⊕aF}(hQ:FQ (bS (vw a1 a2) (A3 a1 a2) r) Q){x:aF×(List cV)×Int×Int}(hS:oB a1 a2 x=some r)(he:vw a1 a2 x st):ZX d Q anJ [] st:=by
 refine aC he ?_
 unfold oB at hS
 refine zS ?_
 refine sB 32 1 (.a_ .lss (tm 31) (tm 30)) hS (fun hS=>?_) (fun hS=>?_)
 ·refine zK ?_
  exact Cq hd a1 a2 hQ x.1 x.2.1 x.2.2.1 x.2.2.2 true hS (by kernel_rfl)
 ·refine zK ?_
  exact Cq hd a1 a2 hQ x.1 x.2.1 x.2.2.1 x.2.2.2 false hS (by kernel_rfl)
def aiq(a1:S8)(a2:aF):St:=⟨(up (up u0 1 (.d (.str a1))) 0 (pt 0)),(up h0 0 ⟨0,some (qV a2)⟩)⟩
def Jz(a1:S8)(a2:aF):Option (aF):=((f102 a2.Client.gj a1).bind fun eJ=>((bR (oB a1 a2) ((aF.mk ({a2.Client with gj:=eJ.1}) a2.sent),eJ.2,(eJ.2.length:Int),0)).bind fun z24=>(some z24)))
theorem Z5(hd:13≤d)(a1:S8)(a2:aF){r:aF}(hQ:FQ (aq_ r) Q)(hS:Jz a1 a2=some r)(he:aA [0,1] [(0,.id 0)] [] st=aiq a1 a2):ZX d Q anK [] st:=by
 refine aC he ?_
 unfold Jz at hS
 refine zS (zL 6 6 ?_)
 refine ak hS (fun eJ mF hS=>zO (some 20) 7 (.call 102 [(tm 18),(tm 19)]) (aW (aqB (d-1) (bO hd rfl) a2.Client.gj a1 eJ mF)) (zL 8 15 (zK (zS (zL 6 6 (zK (ay (zS (zL 3 3 (zK ?_))))))))))
 refine bF (ak hS (fun z24 uE hS=>dD (vw a1 a2) (A3 a1 a2) (fun x st r Q h0 hS hQ=>Z4 hd a1 a2 hQ hS h0) (x:=((aF.mk ({a2.Client with gj:=eJ.1}) a2.sent),eJ.2,(eJ.2.length:Int),0)) (z:=z24) (by show aA _ _ _ _=_;kernel_rfl) uE ?_))
 intro e bX _ hX
 obtain ⟨rfl,rfl⟩:_∧_:=hX
 refine cQ (aq (zS (zL 1 1 (zK ?_))))
 exact aG (au (aM hS hQ (fR (aq9 z24))))
def f60(a1:S8)(a2:aF):Option (aF):=(bif (decide (4096<(a1.length:Int))) then none else (Jz a1 a2))
theorem avt(d:Nat)(hd:13≤d)(a1:S8)(a2:aF)(r:aF)(hS:f60 a1 a2=some r):cg az bE d 60 [(pt 0),(.d (.str a1))] [(qV a2)]=some ((dI 0),[(qV r)]):=by
 refine dN hd (fun Q hQ=>?_) ao_
 unfold f60 at hS
 show ZR _ Q anL [] _
 replace hQ:FQ (aq_ r) Q:=hQ
 refine zS (zL 1 1 (zK (ay (zS (zL 2 2 ?_)))))
 refine sB 12 3 (.a_ .gtr (tm 11) (ki 4096)) hS (fun hS=>?_) (fun hS=>?_)
 ·cases hS
 ·refine zK (zF ?_)
  exact aJ (aq (Z5 hd a1 a2 hQ hS (by kernel_rfl)))
/- (*farwriter/client.worker).do -/
def ara(p1:aF):St:=⟨(up u0 4 (dI 0)),(up h0 0 ⟨0,some (qV p1)⟩)⟩
theorem arb(p1:aF):bA (ara p1) 1 c30.res=some ((dI 0),[(qV p1)]):=by
 kernel_rfl
def ayY(r:aF)(e:PX)(st:St):Prop:=bh c30 1 ((dI 0),[(qV r)]) e st
def f30(a1:jF)(a2:aF):Option (aF):=(bif (decide (a1.Kind=1)) then ((f60 a1.Data a2).bind fun z2=>(some z2)) else none)
theorem avu(d:Nat)(hd:14≤d)(a1:jF)(a2:aF)(r:aF)(hS:f30 a1 a2=some r):cg az bE d 30 [(pt 0),(awE a1)] [(qV a2)]=some ((dI 0),[(qV r)]):=by
 refine dN hd (fun Q hQ=>?_) aoQ
 unfold f30 at hS
 show ZR _ Q anN [] _
 replace hQ:FQ (ayY r) Q:=hQ
 refine zS (zL 2 2 (zK (zS (zL 7 7 (zK (ay (zS (zL 2 2 (zK ?_)))))))))
 refine bF (zS ?_)
 refine sB 22 1 (ck 20 1) hS (fun hS=>?_) (fun hS=>?_)
 ·refine zL 1 2 (zK (zT (zS (zL 3 3 ?_))))
  refine ak hS (fun z2 hz2 hS=>zO (some 26) 4 (.er 60 [(tm 23),(tm 25)]) (mg [0] (avt (d-1) (bO hd rfl) a1.Data a2 z2 hz2)) (zL 1 5 (zK ?_)))
  exact aG (cU (bD (au (aM hS hQ (fR (arb z2))))))
 ·cases hS
/- farwriter/client.Do -/
def arc(p1:aL)(p2:S8):St:=⟨(up (up (up u0 6 (dI 0)) 5 (.d (.str p2))) 4 (pt 40)),(up h0 40 (Bq p1))⟩
theorem ard(p1:aL)(p2:S8):bA (arc p1 p2) 0 c13.res=some ((.bZ [(od p1),(.d (.str p2)),(dI 0)]),[]):=by
 kernel_rfl
def Z6(r:aL×S8)(e:PX)(st:St):Prop:=bh c13 0 ((.bZ [(od r.1),(.d (.str r.2)),(dI 0)]),[]) e st
def air(a1:aL)(a2:jF)(p3:aF):St:=⟨(up (up u0 8 (pt 168)) 4 (pt 40)),(up (up h0 168 ⟨0,some (qV p3)⟩) 40 pN)⟩
def JA(a1:aL)(a2:jF)(p3:aF):Option (aL×S8):=(some (p3.Client,p3.sent))
theorem Z7(hd:15≤d)(a1:aL)(a2:jF){r:aL×S8}(hQ:FQ (Z6 r) Q)(p3:aF)(hS:JA a1 a2 p3=some r)(he:aA [4,8] [(40,.id 40),(168,.id 168)] [] st=air a1 a2 p3):ZX d Q anP [] st:=by
 refine aC he ?_
 unfold JA at hS
 exact ay (ez (dx 11 11 (iC (aq (aG (au (aM hS hQ (fR (ard p3.Client p3.sent)))))))))
def ais(a1:aL)(a2:jF):St:=⟨(up (up (up u0 4 (pt 40)) 3 (pt 32)) 2 (pt 24)),(up (up (up h0 40 pN) 32 ⟨0,some (.box (Yq a2 (dL a2.Runes)))⟩) 24 (Bq a1))⟩
def JB(a1:aL)(a2:jF):Option (aL×S8):=((f29 a1).bind fun z5=>((f30 a2 (aF.mk z5 ([]))).bind fun z7=>(JA a1 a2 z7)))
theorem Z8(hd:15≤d)(a1:aL)(a2:jF){r:aL×S8}(hQ:FQ (Z6 r) Q)(hS:JB a1 a2=some r)(he:aA [2,3,4] [(24,.id 24),(32,.id 32),(40,.id 40)] [.cell 40 14 0 0 1,.cell 40 42 0 0 1,.cell 40 44 0 0 1,.cell 40 565 0 0 1,.cell 40 567 0 0 1] st=ais a1 a2):ZX d Q anQ [] st:=by
 refine aC he ?_
 unfold JB at hS
 refine zS (zL 1 1 ?_)
 refine ak hS (fun z5 tV hS=>zO (v:=(od z5)) (aH:= []) (some 18) 2 (.eR 29 [(tm 17)]) (dP (args:= [(od a1)]) (args':= [(od a1)]) (l:= [(od a1)]) (refs:= []) (r:=(od z5)) (v:=(od z5)) (gN:= []) (by kernel_rfl) (by kernel_rfl) (by kernel_rfl) (aY rfl eU) (by kernel_rfl) (au7 (d-1) (bO hd rfl) a1 z5 tV) (by kernel_rfl) (by kernel_rfl) (by kernel_rfl) (by kernel_rfl)) (zL 3 5 (zK (ay (zS (zL 2 2 ?_))))))
 refine ak hS (fun z7 tW hS=>zO (some 23) 3 (.er 30 [(tm 21),(tm 22)]) (mg [168] (avu (d-1) (bO hd rfl) a2 (aF.mk z5 ([])) z7 tW)) (zL 1 4 (zK (zS (zL 2 2 (zK (zF ?_)))))))
 exact aJ (aq (Z7 hd a1 a2 hQ z7 hS (by kernel_rfl)))
def f13(a1:aL)(a2:jF):Option (aL×S8):=((f28 a1).bind fun z8=>(JB a1 a2))
theorem avv(d:Nat)(hd:15≤d)(a1:aL)(a2:jF)(r:aL×S8)(hS:f13 a1 a2=some r):cg az bE d 13 [(od a1),(awE a2)] []=some ((.bZ [(od r.1),(.d (.str r.2)),(dI 0)]),[]):=by
 refine dN hd (fun Q hQ=>?_) aoG
 unfold f13 at hS
 show ZR _ Q anR [] _
 replace hQ:FQ (Z6 r) Q:=hQ
 refine zS (zL 5 5 (zK (ay (zS (zL 1 1 ?_)))))
 refine ak hS (fun z8 wC hS=>zO (some 11) 2 (c1 28 10) (aW (au6 (d-1) (bO hd rfl) a1 z8 wC)) (zL 1 3 (zK (zS (zL 2 2 (zK (zF ?_)))))))
 exact aJ (aq (Z8 hd a1 a2 hQ hS (by kernel_rfl)))
/- farwriter/farref.Between -/
def GU(p3:Bool):St:=⟨(up u0 6 (dB p3)),h0⟩
theorem n6(p3:Bool):bA (GU p3) 0 yH.res=some ((dB p3),[]):=by
 kernel_rfl
def QI(r:Bool)(e:PX)(st:St):Prop:=bh yH 0 ((dB r),[]) e st
def f127(a1:Int)(a2:Int)(a3:Int):Option (Bool):=(bif (decide (a2≤a1)) then (bif (decide (a1≤a3)) then (some true) else (some false)) else (some false))
theorem jm(d:Nat)(hd:1≤d)(a1:Int)(a2:Int)(a3:Int)(r:Bool)(hS:f127 a1 a2 a3=some r):cg az bE d 127 [(dI a1),(dI a2),(dI a3)] []=some ((dB r),[]):=by
 refine dN hd (fun Q hQ=>?_) GP
 unfold f127 at hS
 show ZR _ Q D7 [] _
 replace hQ:FQ (QI r) Q:=hQ
 refine zS (zL 1 1 (zK (zS (zL 2 2 ?_))))
 refine sB 9 3 (.a_ .leq (tm 7) (tm 8)) hS (fun hS=>?_) (fun hS=>?_)
 ·refine zL 3 6 (sH 13 7 10 true (.a_ .leq (tm 11) (tm 12)) hS (fun hS=>?_) (fun hS=>?_))
  ·refine zL 2 9 (zK ?_)
   exact aG (au (aM hS hQ (fR (n6 true))))
  ·refine zL 2 9 (zK ?_)
   exact aG (au (aM hS hQ (fR (n6 false))))
 ·refine zL 6 9 (zK ?_)
  exact aG (au (aM hS hQ (fR (n6 false))))
/- farwriter/farref.PageRunes -/
def ait(nG:List Int):St:=⟨(up u0 2 (.r (.aI 345 0 0 nG.length))),(up h0 345 ⟨0,some (.own 3 1 (eI.cells nG))⟩)⟩
theorem Hu(nG:List Int):bA (ait nG) 0 U9.res=some ((.r (.own 0 3 1 nG.length (eI.cells nG))),[]):=by
 exact fK (ids:= []) (ids':= [345]) (l:= [(.r (.aI 345 0 0 nG.length))]) (by kernel_rfl) (by kernel_rfl) (fU eI (e:=3) (k:=1) (xs:=nG) (by kernel_rfl) rfl rfl rfl rfl)
def JC(r:(List Int))(e:PX)(st:St):Prop:=bh U9 0 ((.r (.own 0 3 1 r.length (eI.cells r))),[]) e st
def MB(a1:Int)(eM:List Int):St:=⟨(up (up u0 3 (.r (.aI 72 0 0 eM.length))) 0 (dI a1)),(up h0 72 ⟨0,some (.own 3 1 (eI.cells eM))⟩)⟩
def Ac(a1:Int)(eM:List Int):Option ((List Int)):=(bif (decide (a1=3)) then ((gz (decide (0≤95)&&decide (95≤(eM.length:Int))&&decide ((eM.length:Int)≤(eM.length:Int)))).bind fun z44=>((gz (decide (((95:Int).toNat)+(((eM.length:Int):Int).toNat-(95:Int).toNat)≤eM.length))).bind fun YK=>((some (nk eM ((95:Int).toNat) (((eM.length:Int):Int).toNat-(95:Int).toNat) ([160,9670,9618,9225,9228,9229,9226,176,177,9252,9227,9496,9488,9484,9492,9532,9146,9147,9472,9148,9149,9500,9508,9524,9516,9474,8804,8805,960,8800,163,183]:List Int))).bind fun z46=>(some z46)))) else (some eM))
theorem Iz(hd:2≤d)(a1:Int){r:(List Int)}(hQ:FQ (JC r) Q)(eM:List Int)(hS:Ac a1 eM=some r)(he:aA [0,3] [(72,.id 72)] [] st=MB a1 eM):ZX d Q adI [] st:=by
 refine aC he ?_
 unfold Ac at hS
 refine ay (zS (zL 1 1 ?_))
 refine sB 33 2 (ck 32 3) hS (fun hS=>?_) (fun hS=>?_)
 ·refine zK (zT (aN (zL 1 1 ?_)))
  refine ak hS (fun z44 Vi hS=>zO (v:=(.r (.aI 72 0 ((95:Int).toNat) (((eM.length:Int):Int).toNat-(95:Int).toNat)))) (aH:= []) (some 35) 2 (.tD 3 1 (tm 34) (.some (ki 95)) .none) (DY (b:=72) (g:=0) (e:=3) (a:=95) (c:=(eM.length:Int)) (l:=0) (n:=eM.length) (l':=((95:Int).toNat)) (n':=(((eM.length:Int):Int).toNat-(95:Int).toNat)) (cs:=eI.cells eM) (by kernel_rfl) (by kernel_rfl) (jQ _ (kk:= .i64) (j:=95) (by kernel_rfl)) (tJ _) Vi (by simp) rfl) (zL 1 3 (ak hS (fun YK Pk hS=>ak hS (fun z46 Vj hS=>zO (v:=(dI ((min ([160,9670,9618,9225,9228,9229,9226,176,177,9252,9227,9496,9488,9484,9492,9532,9146,9147,9472,9148,9149,9500,9508,9524,9516,9474,8804,8805,960,8800,163,183]:List Int).length (((eM.length:Int):Int).toNat-(95:Int).toNat):Nat):Int))) (aH:= [(72,⟨0,some (.own 3 1 (eI.cells (nk eM ((95:Int).toNat) (((eM.length:Int):Int).toNat-(95:Int).toNat) ([160,9670,9618,9225,9228,9229,9226,176,177,9252,9227,9496,9488,9484,9492,9532,9146,9147,9472,9148,9149,9500,9508,9524,9516,9474,8804,8805,960,8800,163,183]:List Int))))⟩)]) (some 37) 4 (.Dt 1 (tm 35) (tm 36)) (I8 eI (b:=72) (g:=0) (l:=((95:Int).toNat)) (n:=(((eM.length:Int):Int).toNat-(95:Int).toNat)) (e:=3) (xs:=eM) (ys:= [160,9670,9618,9225,9228,9229,9226,176,177,9252,9227,9496,9488,9484,9492,9532,9146,9147,9472,9148,9149,9500,9508,9524,9516,9474,8804,8805,960,8800,163,183]) (by kernel_rfl) (by kernel_rfl) rfl ((congrArg (gm _) (by kernel_rfl:cK _ (.tmp 36)=(.r (.aI 296 1 0 (([160,9670,9618,9225,9228,9229,9226,176,177,9252,9227,9496,9488,9484,9492,9532,9146,9147,9472,9148,9149,9500,9508,9524,9516,9474,8804,8805,960,8800,163,183]:List Int).length))))).trans (en eI (e:=3) (k:=1) (xs:= [160,9670,9618,9225,9228,9229,9226,176,177,9252,9227,9496,9488,9484,9492,9532,9146,9147,9472,9148,9149,9500,9508,9524,9516,9474,8804,8805,960,8800,163,183]) (by kernel_rfl) rfl rfl)) Pk) ?_)))))
  have awW:=Option.some.inj Vj
  have aBz:eM.length=z46.length:=by rw [←awW];exact (Az (of_decide_eq_true (gT Pk))).symm
  rw [awW]
  try delta MB
  try delta jq pN mV js jW lU lF kI
  try delta cM
  try rw [aBz]
  refine zK (zS (zL 2 2 (zK ?_)))
  exact aG (au (aM hS hQ (fR (Hu z46))))
 ·refine zK (zF ?_)
  refine aJ (aq (zS (zL 2 2 (zK ?_))))
  exact aG (au (aM hS hQ (fR (Hu eM))))
def MC(a1:Int)(gl:List Int):St:=⟨(up (up u0 3 (.r (.aI 72 0 0 gl.length))) 0 (dI a1)),(up h0 72 ⟨0,some (.own 3 1 (eI.cells gl))⟩)⟩
def FY(a1:Int)(gl:List Int):Option ((List Int)):=(bif (decide (a1=4)) then ((iJ 35 gl.length).bind fun Z9=>((gl[Z9]?).bind fun wA=>((some (gl.set Z9 163)).bind fun z49=>(Ac a1 z49)))) else (Ac a1 gl))
theorem Wk(hd:2≤d)(a1:Int){r:(List Int)}(hQ:FQ (JC r) Q)(gl:List Int)(hS:FY a1 gl=some r)(he:aA [0,3] [(72,.id 72)] [] st=MC a1 gl):ZX d Q adJ [] st:=by
 refine aC he ?_
 unfold FY at hS
 refine ay (zS (zL 1 1 ?_))
 refine sB 29 2 (ck 28 4) hS (fun hS=>?_) (fun hS=>?_)
 ·refine zK (zT (aN (zL 1 1 ?_)))
  refine ak hS (fun Z9 aBA hS=>zO (v:=(.r (.ptr 72 0 ((0+Z9)*1)))) (aH:= []) (some 31) 2 (.fQ 3 1 (tm 30) (ki 35)) (iK (kk:= .i64) (b:=72) (g:=0) (l:=0) (n:=gl.length) (j:=35) (cs:=eI.cells gl) (by kernel_rfl) (by kernel_rfl) (by kernel_rfl) aBA) (ak hS (fun wA Vk hS=>ak hS (fun z49 VC hS=>zO (v:= .un) (aH:= [(72,⟨0,some (.own 3 1 (eI.cells (gl.set Z9 163)))⟩)]) none 3 (.store 1 (tm 31) (ki 163)) (nW eI (b:=72) (g:=0) (o:=(0+Z9)*1) (e:=3) (k:=1) (m:=Z9) (fo:=0) (xs:=gl) (z:=wA) (z':=163) (by kernel_rfl) (new:=((dI 163):: [])) (ds:= [.int .i64 163]) (by kernel_rfl) (by kernel_rfl) (by kernel_rfl) (by rw [Nat.zero_add];rfl) Vk (by kernel_rfl) (by kernel_rfl) (by kernel_rfl)) ?_))))
  have awX:=Option.some.inj VC
  have aBB:gl.length=z49.length:=by rw [←awX,List.length_set]
  rw [awX]
  try delta MC
  try delta jq pN mV js jW lU lF kI
  try delta cM
  try rw [aBB]
  refine zK ?_
  exact Iz hd a1 hQ z49 hS (by kernel_rfl)
 ·refine zK (zF ?_)
  exact aJ (aq (Iz hd a1 hQ gl hS (by kernel_rfl)))
def Z_(a1:Int)(x:(List Int)×Int×Int):St:=⟨(up (up (up (up u0 11 (dI x.2.2)) 10 (dI x.2.1)) 3 (.r (.aI 72 0 0 x.1.length))) 0 (dI a1)),(up h0 72 ⟨0,some (.own 3 1 (eI.cells x.1))⟩)⟩
def rR(a1:Int)(x:(List Int)×Int×Int)(st:St):Prop:=aA [0,3,10,11] [(72,.id 72)] [] st=Z_ a1 x
def Cs(a1:Int)(vh:List Int):St:=⟨(up (up u0 3 (.r (.aI 72 0 0 vh.length))) 0 (dI a1)),(up h0 72 ⟨0,some (.own 3 1 (eI.cells vh))⟩)⟩
def xj(a1:Int)(z:((List Int)))(e:PX)(st:St):Prop:=e= .exit 0∧st=Cs a1 z
def t_(a1:Int)(jN:List Int)(nC:Int)(jw:Int):St:=⟨(up (up (up (up u0 11 (dI jw)) 10 (dI nC)) 3 (.r (.aI 72 0 0 jN.length))) 0 (dI a1)),(up h0 72 ⟨0,some (.own 3 1 (eI.cells jN))⟩)⟩
def tB(a1:Int)(jN:List Int)(nC:Int)(jw:Int):Option (((List Int)×Int×Int)⊕(((List Int)))):=((iJ jw jN.length).bind fun m50=>((jN[m50]?).bind fun z51=>((some (jN.set m50 jw)).bind fun u6=>(bif (decide (127<jw)) then (bif (!decide (a1=2)) then ((iJ jw u6.length).bind fun m53=>((u6[m53]?).bind fun z54=>((some (u6.set m53 65533)).bind fun Bj=>(some (.inl (Bj,nC,(IntKind.i64.wrap (jw+1)))))))) else (some (.inl (u6,nC,(IntKind.i64.wrap (jw+1)))))) else (some (.inl (u6,nC,(IntKind.i64.wrap (jw+1)))))))))
theorem MD(hd:2≤d)(a1:Int){r:((List Int)×Int×Int)⊕(((List Int)))}(hQ:FQ (bS (rR a1) (xj a1) r) Q)(jN:List Int)(nC:Int)(jw:Int)(hS:tB a1 jN nC jw=some r)(he:aA [0,3,10,11] [(72,.id 72)] [] st=t_ a1 jN nC jw):ZX d Q adF [] st:=by
 refine aC he ?_
 unfold tB at hS
 refine ay (bF (zS (zL 2 2 (zK (zS (zL 3 3 ?_))))))
 refine ak hS (fun m50 aBD hS=>zO (v:=(.r (.ptr 72 0 ((0+m50)*1)))) (aH:= []) (some 17) 4 (.fQ 3 1 (tm 14) (tm 15)) (iK (kk:= .i64) (b:=72) (g:=0) (l:=0) (n:=jN.length) (j:=jw) (cs:=eI.cells jN) (by kernel_rfl) (by kernel_rfl) (by kernel_rfl) aBD) (ak hS (fun z51 VA hS=>ak hS (fun u6 VF hS=>zO (v:= .un) (aH:= [(72,⟨0,some (.own 3 1 (eI.cells (jN.set m50 jw)))⟩)]) none 5 (.store 1 (tm 17) (tm 16)) (nW eI (b:=72) (g:=0) (o:=(0+m50)*1) (e:=3) (k:=1) (m:=m50) (fo:=0) (xs:=jN) (z:=z51) (z':=jw) (by kernel_rfl) (new:=((dI jw):: [])) (ds:= [.int .i64 jw]) (by kernel_rfl) (by kernel_rfl) (by kernel_rfl) (by rw [Nat.zero_add];rfl) VA (by kernel_rfl) (by kernel_rfl) (by kernel_rfl)) ?_))))
 have awY:=Option.some.inj VF
 have aBE:jN.length=u6.length:=by rw [←awY,List.length_set]
 rw [awY]
 try delta t_
 try delta jq pN mV js jW lU lF kI
 try delta cM
 try rw [aBE]
 refine zK (zS (zL 1 1 ?_))
 refine sB 19 2 (.a_ .gtr (tm 18) (ki 127)) hS (fun hS=>?_) (fun hS=>?_)
 ·refine zL 2 4 (sH 22 5 20 true (.a_ .neq (tm 21) (ki 2)) hS (fun hS=>?_) (fun hS=>?_))
  ·refine zL 1 6 (zK (zT (aN (zL 2 2 ?_))))
   refine ak hS (fun m53 aBF hS=>zO (v:=(.r (.ptr 72 0 ((0+m53)*1)))) (aH:= []) (some 26) 3 (.fQ 3 1 (tm 24) (tm 25)) (iK (kk:= .i64) (b:=72) (g:=0) (l:=0) (n:=u6.length) (j:=jw) (cs:=eI.cells u6) (by kernel_rfl) (by kernel_rfl) (by kernel_rfl) aBF) (ak hS (fun z54 aBG hS=>ak hS (fun Bj akS hS=>zO (v:= .un) (aH:= [(72,⟨0,some (.own 3 1 (eI.cells (u6.set m53 65533)))⟩)]) none 4 (.store 1 (tm 26) (ki 65533)) (nW eI (b:=72) (g:=0) (o:=(0+m53)*1) (e:=3) (k:=1) (m:=m53) (fo:=0) (xs:=u6) (z:=z54) (z':=65533) (by kernel_rfl) (new:=((dI 65533):: [])) (ds:= [.int .i64 65533]) (by kernel_rfl) (by kernel_rfl) (by kernel_rfl) (by rw [Nat.zero_add];rfl) aBG (by kernel_rfl) (by kernel_rfl) (by kernel_rfl)) ?_))))
   have awZ:=Option.some.inj akS
   have aBH:u6.length=Bj.length:=by rw [←awZ,List.length_set]
   rw [awZ]
   try delta t_
   try delta jq pN mV js jW lU lF kI
   try delta cM
   try rw [aBH]
   refine zE (cq (aq (aN (zL 2 2 (zE ?_)))))
   exact au (gC hS hQ)
  ·refine zL 1 6 (zK (zF ?_))
   refine aJ (cq (aq (aN (zL 2 2 (zE ?_)))))
   exact au (gC hS hQ)
 ·refine zL 4 6 (zK (zF ?_))
  refine aJ (cq (aq (aN (zL 2 2 (zE ?_)))))
  exact au (gC hS hQ)
def N8(a1:Int)(nD:List Int)(mN:Int)(tj:Int)(jY:Bool):St:=⟨(up (up (up (up (up u0 12 (dB jY)) 11 (dI tj)) 10 (dI mN)) 3 (.r (.aI 72 0 0 nD.length))) 0 (dI a1)),(up h0 72 ⟨0,some (.own 3 1 (eI.cells nD))⟩)⟩
def mR(a1:Int)(nD:List Int)(mN:Int)(tj:Int)(jY:Bool):Option (((List Int)×Int×Int)⊕(((List Int)))):=(bif jY then (tB a1 nD mN tj) else (some (.inr nD)))
theorem Ad(hd:2≤d)(a1:Int){r:((List Int)×Int×Int)⊕(((List Int)))}(hQ:FQ (bS (rR a1) (xj a1) r) Q)(nD:List Int)(mN:Int)(tj:Int)(jY:Bool)(hS:mR a1 nD mN tj jY=some r)(he:aA [0,3,10,11,12] [(72,.id 72)] [] st=N8 a1 nD mN tj jY):ZX d Q adG [] st:=by
 refine aC he ?_
 unfold mR at hS
 refine ay (sR 12 hS (fun hS=>?_) (fun hS=>?_))
 ·exact zT (aJ (aq (MD hd a1 hQ nD mN tj hS (by kernel_rfl))))
 ·exact zF (aC (J:=Cs a1 nD) (by kernel_rfl) (cP (cG (au (iW hS hQ)))))
def rS(a1:Int)(x:(List Int)×Int×Int):Option (((List Int)×Int×Int)⊕(((List Int)))):=(bif (decide (x.2.2<x.2.1)) then (mR a1 x.1 x.2.1 x.2.2 true) else (mR a1 x.1 x.2.1 x.2.2 false))
theorem Wl(hd:2≤d)(a1:Int){r:((List Int)×Int×Int)⊕(((List Int)))}(hQ:FQ (bS (rR a1) (xj a1) r) Q){x:(List Int)×Int×Int}(hS:rS a1 x=some r)(he:rR a1 x st):ZX d Q adH [] st:=by
 refine aC he ?_
 unfold rS at hS
 refine zS ?_
 refine sB 12 1 (.a_ .lss (tm 11) (tm 10)) hS (fun hS=>?_) (fun hS=>?_)
 ·refine zK ?_
  exact Ad hd a1 hQ x.1 x.2.1 x.2.2 true hS (by kernel_rfl)
 ·refine zK ?_
  exact Ad hd a1 hQ x.1 x.2.1 x.2.2 false hS (by kernel_rfl)
def aac(a1:Int):St:=⟨(up u0 0 (dI a1)),h0⟩
def FZ(a1:Int):Option ((List Int)):=((mk? 8 256 256 0).bind fun z25=>((bR (rS a1) (z25,(z25.length:Int),0)).bind fun IW=>(FY a1 IW)))
theorem Wm(hd:2≤d)(a1:Int){r:(List Int)}(hQ:FQ (JC r) Q)(hS:FZ a1=some r)(he:aA [0] [] [] st=aac a1):ZX d Q adK [] st:=by
 refine aC he ?_
 unfold FZ at hS
 refine zS ?_
 refine ak hS (fun z25 nL hS=>zO (v:=(.r (.aI 72 1 0 z25.length))) (aH:= [(72,⟨1,some (.own 3 1 (eI.cells z25))⟩)]) (some 8) 1 (.JP 3 1 8 [(1,(.int .i64 0))] (ki 256) (ki 256)) (QA eI (kl:= .i64) (kc:= .i64) (z0:=0) (a:=256) (c:=256) (by kernel_rfl) (by kernel_rfl) (by kernel_rfl) rfl nL) (zL 1 2 (zK (ay (zS (zL 3 3 (zK ?_)))))))
 refine bF (ak hS (fun IW VD hS=>dD (rR a1) (xj a1) (fun x st r Q h0 hS hQ=>Wl hd a1 hQ hS h0) (x:=(z25,(z25.length:Int),0)) (z:=IW) (by show aA _ _ _ _=_;kernel_rfl) VD ?_))
 intro e bX _ hX
 obtain ⟨rfl,rfl⟩:_∧_:=hX
 exact cQ (aq (Wk hd a1 hQ IW hS (by kernel_rfl)))
def f128(a1:Int):Option ((List Int)):=((f127 a1 1 4).bind fun IX=>(bif (!IX) then (some []) else (FZ a1)))
theorem Wn(d:Nat)(hd:2≤d)(a1:Int)(r:(List Int))(hS:f128 a1=some r):cg az bE d 128 [(dI a1)] []=some ((.r (.own 0 3 1 r.length (eI.cells r))),[]):=by
 refine dN hd (fun Q hQ=>?_) af2
 unfold f128 at hS
 show ZR _ Q adM [] _
 replace hQ:FQ (JC r) Q:=hQ
 refine zS (zL 1 1 (zK (ay (zS (zL 1 1 ?_)))))
 refine ak hS (fun IX VE hS=>zO (some 6) 2 (.call 127 [(tm 5),(ki 1),(ki 4)]) (aW (jm (d-1) (bO hd rfl) a1 1 4 IX VE)) (zL 1 3 (zK ?_)))
 refine sR 7 hS (fun hS=>?_) (fun hS=>?_)
 ·refine zT (zS (zL 1 1 (zK ?_)))
  exact aG (bD (au (aM hS hQ (fR (Hu [])))))
 ·exact zF (aJ (aq (Wm hd a1 hQ hS (by kernel_rfl))))
/- farwriter/farref.Rune -/
def GY(p2:Bool):St:=⟨(up u0 2 (dB p2)),h0⟩
theorem uF(p2:Bool):bA (GY p2) 0 yJ.res=some ((dB p2),[]):=by
 kernel_rfl
def QK(r:Bool)(e:PX)(st:St):Prop:=bh yJ 0 ((dB r),[]) e st
def f178(a1:Int):Option (Bool):=((f127 a1 0 55295).bind fun z3=>(bif z3 then (some true) else ((f127 a1 57344 1114111).bind fun z4=>(some z4))))
theorem KY(d:Nat)(hd:2≤d)(a1:Int)(r:Bool)(hS:f178 a1=some r):cg az bE d 178 [(dI a1)] []=some ((dB r),[]):=by
 refine dN hd (fun Q hQ=>?_) GR
 unfold f178 at hS
 show ZR _ Q Ea [] _
 replace hQ:FQ (QK r) Q:=hQ
 refine zS (zL 1 1 (zK (zS (zL 1 1 ?_))))
 refine ak hS (fun z3 hz3 hS=>zO (some 4) 2 (.call 127 [(tm 3),(ki 0),(ki 55295)]) (aW (jm (d-1) (bO hd rfl) a1 0 55295 z3 hz3)) (zL 1 3 (sL 5 hS (fun hS=>?_) (fun hS=>?_))))
 ·refine zL 4 7 (zK ?_)
  exact aG (au (aM hS hQ (fR (uF true))))
 ·refine zL 1 4 (ak hS (fun z4 jR hS=>zG (some 7) 5 5 false (.call 127 [(tm 6),(ki 57344),(ki 1114111)]) (aW (jm (d-1) (bO hd rfl) a1 57344 1114111 z4 jR)) (zL 2 7 (zK ?_))))
  exact aG (au (aM hS hQ (fR (uF z4))))
/- farwriter/farref.Width -/
def GZ(lp:Int):St:=⟨(up u0 2 (dI lp)),h0⟩
theorem uG(lp:Int):bA (GZ lp) 0 yK.res=some ((dI lp),[]):=by
 kernel_rfl
def Eh(r:Int)(e:PX)(st:St):Prop:=bh yK 0 ((dI r),[]) e st
def CZ(a1:Int)(x:Int×Int):St:=⟨(up (up (up (up (up u0 45 (dI x.2)) 44 (dI ((([(0,0),(32,1),(127,0),(160,1),(768,0),(880,1),(4352,2),(4448,1),(8203,0),(8208,1),(11904,2),(12351,1),(12353,2),(19904,1),(19968,2),(42192,1),(44032,2),(55204,1),(63744,2),(64256,1),(65024,0),(65040,1),(65072,2),(65136,1),(65280,2),(65377,1),(65504,2),(65511,1),(127744,2),(128592,1),(129280,2),(129536,1),(131072,2),(262142,1)]:List (Int×Int)).length):Int))) 43 lF) 3 (dI x.1)) 0 (dI a1)),alg⟩
def ig(a1:Int)(x:Int×Int)(st:St):Prop:=aA [0,3,43,44,45] [(352,.id 352)] [] st=CZ a1 x
def lQ(a1:Int)(iD:Int):St:=⟨(up u0 3 (dI iD)),h0⟩
def jA(a1:Int)(z:Int)(e:PX)(st:St):Prop:=e= .exit 0∧st=lQ a1 z
def tN(a1:Int)(pI:Int)(nu:Int):St:=⟨(up (up (up (up (up u0 45 (dI nu)) 44 (dI ((([(0,0),(32,1),(127,0),(160,1),(768,0),(880,1),(4352,2),(4448,1),(8203,0),(8208,1),(11904,2),(12351,1),(12353,2),(19904,1),(19968,2),(42192,1),(44032,2),(55204,1),(63744,2),(64256,1),(65024,0),(65040,1),(65072,2),(65136,1),(65280,2),(65377,1),(65504,2),(65511,1),(127744,2),(128592,1),(129280,2),(129536,1),(131072,2),(262142,1)]:List (Int×Int)).length):Int))) 43 lF) 3 (dI pI)) 0 (dI a1)),alg⟩
def iO(a1:Int)(pI:Int)(nu:Int):Option ((Int×Int)⊕Int):=((iJ nu (([(0,0),(32,1),(127,0),(160,1),(768,0),(880,1),(4352,2),(4448,1),(8203,0),(8208,1),(11904,2),(12351,1),(12353,2),(19904,1),(19968,2),(42192,1),(44032,2),(55204,1),(63744,2),(64256,1),(65024,0),(65040,1),(65072,2),(65136,1),(65280,2),(65377,1),(65504,2),(65511,1),(127744,2),(128592,1),(129280,2),(129536,1),(131072,2),(262142,1)]:List (Int×Int)).length)).bind fun m9=>((([(0,0),(32,1),(127,0),(160,1),(768,0),(880,1),(4352,2),(4448,1),(8203,0),(8208,1),(11904,2),(12351,1),(12353,2),(19904,1),(19968,2),(42192,1),(44032,2),(55204,1),(63744,2),(64256,1),(65024,0),(65040,1),(65072,2),(65136,1),(65280,2),(65377,1),(65504,2),(65511,1),(127744,2),(128592,1),(129280,2),(129536,1),(131072,2),(262142,1)])[m9]?).bind fun cO=>(bif (decide (cO.1≤a1)) then (some (.inl (cO.2,(IntKind.i64.wrap (nu+1))))) else (some (.inl (pI,(IntKind.i64.wrap (nu+1))))))))
theorem qK(hd:3≤d)(a1:Int){r:(Int×Int)⊕Int}(hQ:FQ (bS (ig a1) (jA a1) r) Q)(pI:Int)(nu:Int)(hS:iO a1 pI nu=some r)(he:aA [0,3,43,44,45] [(352,.id 352)] [] st=tN a1 pI nu):ZX d Q Eb [] st:=by
 refine aC he ?_
 unfold iO at hS
 refine ay (bF (zS ?_))
 refine ak hS (fun m9 hm9 hS=>zO (v:=(.r (.ptr 352 0 ((0+m9)*2)))) (aH:= []) (some 47) 1 (.fQ 39 2 (tm 43) (tm 45)) (iK (kk:= .i64) (b:=352) (g:=0) (l:=0) (n:=([(0,0),(32,1),(127,0),(160,1),(768,0),(880,1),(4352,2),(4448,1),(8203,0),(8208,1),(11904,2),(12351,1),(12353,2),(19904,1),(19968,2),(42192,1),(44032,2),(55204,1),(63744,2),(64256,1),(65024,0),(65040,1),(65072,2),(65136,1),(65280,2),(65377,1),(65504,2),(65511,1),(127744,2),(128592,1),(129280,2),(129536,1),(131072,2),(262142,1)]:List (Int×Int)).length) (j:=nu) (cs:=ku.cells ([(0,0),(32,1),(127,0),(160,1),(768,0),(880,1),(4352,2),(4448,1),(8203,0),(8208,1),(11904,2),(12351,1),(12353,2),(19904,1),(19968,2),(42192,1),(44032,2),(55204,1),(63744,2),(64256,1),(65024,0),(65040,1),(65072,2),(65136,1),(65280,2),(65377,1),(65504,2),(65511,1),(127744,2),(128592,1),(129280,2),(129536,1),(131072,2),(262142,1)])) (by kernel_rfl) (by kernel_rfl) (by kernel_rfl) hm9) (ak hS (fun cO jn hS=>zO (v:=(.agg ((dI cO.1)::((dI cO.2):: [])))) (aH:= []) (some 48) 2 (lt 2 47) (jl ku (b:=352) (g:=0) (o:=(0+m9)*2) (e:=39) (k:=2) (m:=m9) (fo:=0) (xs:= [(0,0),(32,1),(127,0),(160,1),(768,0),(880,1),(4352,2),(4448,1),(8203,0),(8208,1),(11904,2),(12351,1),(12353,2),(19904,1),(19968,2),(42192,1),(44032,2),(55204,1),(63744,2),(64256,1),(65024,0),(65040,1),(65072,2),(65136,1),(65280,2),(65377,1),(65504,2),(65511,1),(127744,2),(128592,1),(129280,2),(129536,1),(131072,2),(262142,1)]) (by kernel_rfl) (by kernel_rfl) (by rw [Nat.zero_add];rfl) jn (by kernel_rfl) (by kernel_rfl) (by kernel_rfl)) (zL 2 4 (zK (zS (zL 3 3 ?_)))))))
 refine sB 52 4 (.a_ .geq (tm 49) (tm 51)) hS (fun hS=>?_) (fun hS=>?_)
 ·refine zK (zT (aN (zL 3 3 (zE ?_))))
  refine cq (aq (aN (zL 2 2 (zE ?_))))
  exact au (gC hS hQ)
 ·refine zK (zF ?_)
  refine aJ (cq (aq (aN (zL 2 2 (zE ?_)))))
  exact au (gC hS hQ)
def tO(a1:Int)(h_:Int)(j5:Int)(iX:Bool):St:=⟨(up (up (up (up (up (up u0 46 (dB iX)) 45 (dI j5)) 44 (dI ((([(0,0),(32,1),(127,0),(160,1),(768,0),(880,1),(4352,2),(4448,1),(8203,0),(8208,1),(11904,2),(12351,1),(12353,2),(19904,1),(19968,2),(42192,1),(44032,2),(55204,1),(63744,2),(64256,1),(65024,0),(65040,1),(65072,2),(65136,1),(65280,2),(65377,1),(65504,2),(65511,1),(127744,2),(128592,1),(129280,2),(129536,1),(131072,2),(262142,1)]:List (Int×Int)).length):Int))) 43 lF) 3 (dI h_)) 0 (dI a1)),alg⟩
def fH(a1:Int)(h_:Int)(j5:Int)(iX:Bool):Option ((Int×Int)⊕Int):=(bif iX then (iO a1 h_ j5) else (some (.inr h_)))
theorem kz(hd:3≤d)(a1:Int){r:(Int×Int)⊕Int}(hQ:FQ (bS (ig a1) (jA a1) r) Q)(h_:Int)(j5:Int)(iX:Bool)(hS:fH a1 h_ j5 iX=some r)(he:aA [0,3,43,44,45,46] [(352,.id 352)] [] st=tO a1 h_ j5 iX):ZX d Q Ec [] st:=by
 refine aC he ?_
 unfold fH at hS
 refine ay (sR 46 hS (fun hS=>?_) (fun hS=>?_))
 ·exact zT (aJ (aq (qK hd a1 hQ h_ j5 hS (by kernel_rfl))))
 ·exact zF (aC (J:=lQ a1 h_) (by kernel_rfl) (cP (cG (au (iW hS hQ)))))
def ij(a1:Int)(x:Int×Int):Option ((Int×Int)⊕Int):=(bif (decide (x.2<((([(0,0),(32,1),(127,0),(160,1),(768,0),(880,1),(4352,2),(4448,1),(8203,0),(8208,1),(11904,2),(12351,1),(12353,2),(19904,1),(19968,2),(42192,1),(44032,2),(55204,1),(63744,2),(64256,1),(65024,0),(65040,1),(65072,2),(65136,1),(65280,2),(65377,1),(65504,2),(65511,1),(127744,2),(128592,1),(129280,2),(129536,1),(131072,2),(262142,1)]:List (Int×Int)).length):Int))) then (fH a1 x.1 x.2 true) else (fH a1 x.1 x.2 false))
theorem yS(hd:3≤d)(a1:Int){r:(Int×Int)⊕Int}(hQ:FQ (bS (ig a1) (jA a1) r) Q){x:Int×Int}(hS:ij a1 x=some r)(he:ig a1 x st):ZX d Q Ed [] st:=by
 refine aC he ?_
 unfold ij at hS
 refine zS ?_
 refine sB 46 1 (.a_ .lss (tm 45) (tm 44)) hS (fun hS=>?_) (fun hS=>?_)
 ·refine zK ?_
  exact kz hd a1 hQ x.1 x.2 true hS (by kernel_rfl)
 ·refine zK ?_
  exact kz hd a1 hQ x.1 x.2 false hS (by kernel_rfl)
def C0(a1:Int):St:=⟨(up u0 0 (dI a1)),h0⟩
def nv(a1:Int):Option (Int):=((bR (ij a1) (0,0)).bind fun eJ=>(some eJ))
theorem yT(hd:3≤d)(a1:Int){r:Int}(hQ:FQ (Eh r) Q)(hS:nv a1=some r)(he:aA [0] [] [] st=C0 a1):ZX d Q Ee [] st:=by
 refine aC he ?_
 unfold nv at hS
 refine zS (zL 1 1 (zK (ay (zS (zL 37 37 (zK ?_))))))
 refine bF (ak hS (fun eJ mF hS=>dD (ig a1) (jA a1) (fun x st r Q h0 hS hQ=>yS hd a1 hQ hS h0) (x:=(0,0)) (z:=eJ) (by show aA _ _ _ _=_;kernel_rfl) mF ?_))
 intro e bX _ hX
 obtain ⟨rfl,rfl⟩:_∧_:=hX
 refine cQ (aq (zS (zL 2 2 (zK ?_))))
 exact aG (au (aM hS hQ (fR (uG eJ))))
def f129(a1:Int):Option (Int):=((f178 a1).bind fun z12=>(bif (!z12) then (some 0) else (nv a1)))
theorem uH(d:Nat)(hd:3≤d)(a1:Int)(r:Int)(hS:f129 a1=some r):cg az bE d 129 [(dI a1)] []=some ((dI r),[]):=by
 refine dN hd (fun Q hQ=>?_) GQ
 unfold f129 at hS
 show ZR _ Q Ef [] _
 replace hQ:FQ (Eh r) Q:=hQ
 refine zS (zL 1 1 (zK (ay (zS (zL 1 1 ?_)))))
 refine ak hS (fun z12 iz hS=>zO (some 7) 2 (c1 178 6) (aW (KY (d-1) (bO hd rfl) a1 z12 iz)) (zL 1 3 (zK ?_)))
 refine sR 8 hS (fun hS=>?_) (fun hS=>?_)
 ·refine zT (zS (zL 1 1 (zK ?_)))
  exact aG (bD (au (aM hS hQ (fR (uG 0)))))
 ·exact zF (aJ (aq (yT hd a1 hQ hS (by kernel_rfl))))
/- farwriter/farref.Moved -/
def aiu(p1:ah):St:=⟨(up u0 6 (pt 56)),(up h0 56 ⟨0,some (.box (av p1))⟩)⟩
theorem aiv(p1:ah):bA (aiu p1) 0 U_.res=some ((.agg (av p1)),[]):=by
 kernel_rfl
def avw(r:ah)(e:PX)(st:St):Prop:=bh U_ 0 ((.agg (av r)),[]) e st
def f134(a1:ah)(a2:Int)(a3:Int):Option (ah):=(some ({a1 with Row:=(if (IntKind.i64.wrap (a1.aT.cC-1))<(if 0>a2 then 0 else a2) then (IntKind.i64.wrap (a1.aT.cC-1)) else (if 0>a2 then 0 else a2)),dS:=(if (IntKind.i64.wrap (a1.aT.bV-1))<(if 0>a3 then 0 else a3) then (IntKind.i64.wrap (a1.aT.bV-1)) else (if 0>a3 then 0 else a3)),eL:=false}))
theorem Ae(d:Nat)(hd:1≤d)(a1:ah)(a2:Int)(a3:Int)(r:ah)(hS:f134 a1 a2 a3=some r):cg az bE d 134 [(.agg (av a1)),(dI a2),(dI a3)] []=some ((.agg (av r)),[]):=by
 refine dN hd (fun Q hQ=>?_) af5
 unfold f134 at hS
 show ZR _ Q adN [] _
 replace hQ:FQ (avw r) Q:=hQ
 refine zS (zL 2 2 (zK (zS (zL 20 20 (zK (zS (zL 2 2 (zK ?_))))))))
 exact aG (au (aM hS hQ (fR (aiv ({a1 with Row:=(if (IntKind.i64.wrap (a1.aT.cC-1))<(if 0>a2 then 0 else a2) then (IntKind.i64.wrap (a1.aT.cC-1)) else (if 0>a2 then 0 else a2)),dS:=(if (IntKind.i64.wrap (a1.aT.bV-1))<(if 0>a3 then 0 else a3) then (IntKind.i64.wrap (a1.aT.bV-1)) else (if 0>a3 then 0 else a3)),eL:=false})))))
/- farwriter/farref.Mode -/
def aiw(p2:Bool):St:=⟨(up u0 4 (dB p2)),h0⟩
theorem PM(p2:Bool):bA (aiw p2) 0 Va.res=some ((dB p2),[]):=by
 kernel_rfl
def avx(r:Bool)(e:PX)(st:St):Prop:=bh Va 0 ((dB r),[]) e st
def f131(a1:ah)(a2:Int):Option (Bool):=((gz (!decide (a2=0))).bind fun z2=>(bif (decide ((Int.tmod (IntKind.i64.wrap (Int.tdiv a1.gD a2)) 2)=1)) then (some true) else (some false)))
theorem Af(d:Nat)(hd:1≤d)(a1:ah)(a2:Int)(r:Bool)(hS:f131 a1 a2=some r):cg az bE d 131 [(.agg (av a1)),(dI a2)] []=some ((dB r),[]):=by
 refine dN hd (fun Q hQ=>?_) af4
 unfold f131 at hS
 show ZR _ Q adO [] _
 replace hQ:FQ (avx r) Q:=hQ
 refine zS (zL 2 2 (zK (zS (zL 3 3 ?_))))
 refine ak hS (fun z2 hz2 hS=>zO (v:=(dI (IntKind.i64.wrap (Int.tdiv a1.gD a2)))) (aH:= []) (some 8) 4 (.WT .quo (tm 6) (tm 7)) (as4 (kk:= .i64) (a:=a1.gD) (c:=a2) (by kernel_rfl) (by kernel_rfl) (as6 hz2)) (zL 1 5 (sB 10 6 (ck 9 1) hS (fun hS=>?_) (fun hS=>?_))))
 ·refine zL 1 7 (zK ?_)
  exact aG (au (aM hS hQ (fR (PM true))))
 ·refine zL 1 7 (zK ?_)
  exact aG (au (aM hS hQ (fR (PM false))))
/- slices.Clone[[]farwriter/api.Line,farwriter/api.Line] -/
def Hv(p1:List bk):St:=⟨(up u0 2 (.r (.aI 97 0 0 p1.length))),(up h0 97 ⟨0,some (.own 91 1 (bJ.cells p1))⟩)⟩
theorem PN(p1:List bk):bA (Hv p1) 0 EZ.res=some ((.r (.own 0 91 1 p1.length (bJ.cells p1))),[]):=by
 exact fK (ids:= []) (ids':= [97]) (l:= [(.r (.aI 97 0 0 p1.length))]) (by kernel_rfl) (by kernel_rfl) (fU bJ (e:=91) (k:=1) (xs:=p1) (by kernel_rfl) rfl rfl rfl rfl)
def aeh(r:List bk)(e:PX)(st:St):Prop:=bh EZ 0 ((.r (.own 0 91 1 r.length (bJ.cells r))),[]) e st
def f179(a1:List bk):Option (List bk):=((fT 24 ([]:List bk) a1).bind fun z2=>(some z2))
theorem arf(d:Nat)(hd:1≤d)(a1:List bk)(r:List bk)(hS:f179 a1=some r):cg az bE d 179 [(dE bJ a1)] []=some ((.r (.own 0 91 1 r.length (bJ.cells r))),[]):=by
 refine yC agj rfl rfl (Nat.le_trans (Nat.le_of_ble_eq_true rfl) hd) (fun Q hQ=>?_) (fun h0 Q hQ=>?_)
 ·unfold f179 at hS
  show ZR _ Q Q8 [] _
  refine zS (zL 1 1 (zK (ay (zS (zL 2 2 (zK (zF ?_)))))))
  refine aJ (aq (zS (zL 2 2 ?_)))
  refine ak hS (fun z2 hz2 hS=>zO (v:=(.r (.aI 48 2 0 z2.length))) (aH:= [(48,⟨2,some (.own 91 1 (bJ.cells z2))⟩)]) (some 7) 3 (.app 91 1 24 (tm 5) (tm 6)) (fJ bJ (b:=48) (g:=1) (n:=([]:List bk).length) (xs:= []) (ys:=a1) ((congrArg (gm _) (by kernel_rfl:cK _ (.tmp 6)=(.iG false a1.length (bJ.cells a1)))).trans rfl) rfl (by kernel_rfl) rfl (by kernel_rfl) rfl hz2) (zL 1 4 (zK ?_)))
  exact aG (au (aM (F:=aeh) hS hQ (ko (by kernel_rfl) ((congrArg (fun s=>bA s 0 EZ.res) (by kernel_rfl:dZ EZ.fin _=Hv z2)).trans (PN z2)))))
 ·have hS:(some [])=some r:=by
   have hl:=List.eq_nil_of_length_eq_zero h0
   subst hl
   simpa [f179,fT] using hS
  show ZR _ Q Q8 [] _
  refine zS (zL 1 1 (zK (ay (zS (zL 2 2 (zK (zT (zS (zL 1 1 (zK ?_))))))))))
  exact aG (bD (au (aM (F:=aeh) hS hQ (ko (by kernel_rfl) ((congrArg (fun s=>bA s 0 EZ.res) (by kernel_rfl:dZ EZ.fin _=Hv [])).trans (PN []))))))
/- farwriter/farref.Rows -/
def GV(fE:List (List aa)):St:=⟨(up u0 2 (.r (.aI 32 0 0 fE.length))),(up h0 32 ⟨0,some (.own 32 1 ((d_ ag).cells fE))⟩)⟩
theorem GW(fE:List (List aa)):bA (GV fE) 0 yI.res=some ((.r (.own 0 32 1 fE.length ((d_ ag).cells fE))),[]):=by
 exact fK (ids:= []) (ids':= [32]) (l:= [(.r (.aI 32 0 0 fE.length))]) (by kernel_rfl) (by kernel_rfl) (fU (d_ ag) (e:=32) (k:=1) (xs:=fE) (by kernel_rfl) rfl rfl rfl rfl)
def QJ(r:(List (List aa)))(e:PX)(st:St):Prop:=bh yI 0 ((.r (.own 0 32 1 r.length ((d_ ag).cells r))),[]) e st
def CX(a1:aV)(x:(List (List aa))×Int):St:=⟨(up (up (up u0 4 (dI x.2)) 3 (.r (.aI 32 0 0 x.1.length))) 1 (pt 16)),(up (up h0 32 ⟨0,some (.own 32 1 ((d_ ag).cells x.1))⟩) 16 ⟨0,some (.box (iZ a1))⟩)⟩
def jy(a1:aV)(x:(List (List aa))×Int)(st:St):Prop:=aA [1,3,4] [(16,.id 16),(32,.id 32)] [] st=CX a1 x
def lN(a1:aV)(eG:List (List aa)):St:=⟨(up u0 3 (.r (.aI 32 0 0 eG.length))),(up h0 32 ⟨0,some (.own 32 1 ((d_ ag).cells eG))⟩)⟩
def mh(a1:aV)(z:((List (List aa))))(e:PX)(st:St):Prop:=e= .exit 0∧st=lN a1 z
def tM(a1:aV)(dW:List (List aa))(eP:Int):St:=⟨(up (up (up u0 4 (dI eP)) 3 (.r (.aI 32 0 0 dW.length))) 1 (pt 16)),(up (up h0 32 ⟨0,some (.own 32 1 ((d_ ag).cells dW))⟩) 16 ⟨0,some (.box (iZ a1))⟩)⟩
def iN(a1:aV)(dW:List (List aa))(eP:Int):Option (((List (List aa))×Int)⊕(((List (List aa))))):=((ni a1.Cells (IntKind.i64.wrap (eP*a1.bV)) (IntKind.i64.wrap ((IntKind.i64.wrap (eP+1))*a1.bV))).bind fun cO=>((f91 cO).bind fun eJ=>((fT 24 dW ([eJ]:List (List aa))).bind fun z12=>(some (.inl (z12,(IntKind.i64.wrap (eP+1))))))))
theorem qH(hd:2≤d)(a1:aV){r:((List (List aa))×Int)⊕(((List (List aa))))}(hQ:FQ (bS (jy a1) (mh a1) r) Q)(dW:List (List aa))(eP:Int)(hS:iN a1 dW eP=some r)(he:aA [1,3,4] [(16,.id 16),(32,.id 32)] [] st=tM a1 dW eP):ZX d Q D8 [] st:=by
 refine aC he ?_
 unfold iN at hS
 refine ay (bF (aN (zL 12 12 ?_)))
 refine ak hS (fun cO jn hS=>zO (v:=(dE ag cO)) (aH:= []) (some 23) 13 (.tD 100 4 (tm 13) (.some (tm 17)) (.some (tm 22))) (I7 ag (xs:=a1.Cells) (a:=(IntKind.i64.wrap (eP*a1.bV))) (c:=(IntKind.i64.wrap ((IntKind.i64.wrap (eP+1))*a1.bV))) (by kernel_rfl) rfl (jQ _ (kk:= .i64) (j:=(IntKind.i64.wrap (eP*a1.bV))) (by kernel_rfl)) (jQ _ (kk:= .i64) (j:=(IntKind.i64.wrap ((IntKind.i64.wrap (eP+1))*a1.bV))) (by kernel_rfl)) jn) (ak hS (fun eJ mF hS=>zO (some 24) 14 (c1 91 23) (aW (oz (d-1) (bO hd rfl) cO eJ mF)) (zO (v:=(.r (.aI 208 1 0 (([eJ]:List (List aa)).length)))) (aH:= [(200,⟨2,none⟩),(208,⟨1,some (.own 32 1 ((d_ ag).cells ([eJ])))⟩)]) (some 25) 15 (.tC 32 1 1 [(1,(.slice .none 0 0))] [(0,(1,(tm 24)))]) ((by kernel_rfl:aD _ _ 25 (cK _) (.tC 32 1 1 [(1,(.slice .none 0 0))] [(0,(1,(.tmp 24)))])=some ((.r (.aI 208 1 0 (([eJ]:List (List aa)).length))),[(200,⟨2,none⟩),(208,⟨1,some (.own 32 1 [.sl eJ.length (((ag.cells eJ).drop (0*ag.k)).take (eJ.length*ag.k))])⟩)])).trans (by simp only [dJ.II];rfl)) (ak hS (fun z12 iz hS=>zO (v:=(.r (.aI 32 1 0 z12.length))) (aH:= [(32,⟨1,some (.own 32 1 ((d_ ag).cells z12))⟩)]) (some 26) 16 (.app 32 1 24 (tm 11) (tm 25)) (fJ (d_ ag) (b:=32) (g:=0) (n:=dW.length) (xs:=dW) (ys:= [eJ]) ((congrArg (gm _) (by kernel_rfl:cK _ (.tmp 25)=(.r (.aI 208 1 0 (([eJ]:List (List aa)).length))))).trans (en (d_ ag) (e:=32) (k:=1) (xs:= [eJ]) (by kernel_rfl) rfl rfl)) rfl (by kernel_rfl) rfl (by kernel_rfl) rfl iz) (zL 1 17 (zE ?_))))))))
 refine cq (aq (aN (zL 3 3 (zE ?_))))
 exact au (gC hS hQ)
def ic(a1:aV)(x:(List (List aa))×Int):Option (((List (List aa))×Int)⊕(((List (List aa))))):=(bif (decide (x.2<a1.cC)) then (iN a1 x.1 x.2) else (some (.inr x.1)))
theorem yN(hd:2≤d)(a1:aV){r:((List (List aa))×Int)⊕(((List (List aa))))}(hQ:FQ (bS (jy a1) (mh a1) r) Q){x:(List (List aa))×Int}(hS:ic a1 x=some r)(he:jy a1 x st):ZX d Q D9 [] st:=by
 refine aC he ?_
 unfold ic at hS
 refine ay (zS (zL 3 3 ?_))
 refine sB 8 4 (.a_ .lss (tm 5) (tm 7)) hS (fun hS=>?_) (fun hS=>?_)
 ·refine zK (zT ?_)
  exact aJ (aq (qH hd a1 hQ x.1 x.2 hS (by kernel_rfl)))
 ·refine zK (zF ?_)
  exact aC (J:=lN a1 x.1) (by kernel_rfl) (cP (cG (au (iW hS hQ))))
def f180(a1:aV):Option ((List (List aa))):=((bR (ic a1) ([],0)).bind fun fu=>(some fu))
theorem KV(d:Nat)(hd:2≤d)(a1:aV)(r:(List (List aa)))(hS:f180 a1=some r):cg az bE d 180 [(.agg (iZ a1))] []=some ((.r (.own 0 32 1 r.length ((d_ ag).cells r))),[]):=by
 refine dN hd (fun Q hQ=>?_) GS
 unfold f180 at hS
 show ZR _ Q D_ [] _
 replace hQ:FQ (QJ r) Q:=hQ
 refine zS (zL 2 2 (zK (zS (zL 1 1 (zK (ay (zS (zL 1 1 (zK ?_)))))))))
 refine bF (ak hS (fun fu lO hS=>dD (jy a1) (mh a1) (fun x st r Q h0 hS hQ=>yN hd a1 hQ hS h0) (x:=([],0)) (z:=fu) (by show aA _ _ _ _=_;kernel_rfl) lO ?_))
 intro e bX _ hX
 obtain ⟨rfl,rfl⟩:_∧_:=hX
 refine cQ (aq (zS (zL 2 2 (zK ?_))))
 exact aG (au (aM hS hQ (fR (GW fu))))
end
end Go.Proofs.YtobkkblijfhpoaaGreatDoor.Pm
