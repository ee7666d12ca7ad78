/- Typed functions, and that the codes are these. Printed by dec.py. -/
import Derived.Test.YtobkkblijfhpoaaGreatDoorDCpJ
namespace Go.Proofs.YtobkkblijfhpoaaGreatDoor.Pm
noncomputable section
set_option maxRecDepth 1000000
set_option maxHeartbeats 20000000
set_option linter.unusedVariables false
set_option linter.unusedSimpArgs false
variable {d : Nat} {Q : PQ} {st : St}
/- farwriter/farkeep.ClientPlain -/
def ael(IZ:Bool):St:=⟨(up u0 6 (dB IZ)),h0⟩
theorem Ba(IZ:Bool):bA (ael IZ) 0 c4.res=some ((dB IZ),[]):=by
 kernel_rfl
def aem(r:Bool)(e:PX)(st:St):Prop:=bh c4 0 ((dB r),[]) e st
def arB(a1:Int)(a2:Int)(a3:S8)(Cy:aL)(Cz:List aP)(MR:aL)(PU:S8):St:=⟨(up (up (up (up (up u0 13 (dI 0)) 12 (.d (.str PU))) 11 (pt 96)) 9 (dE bN Cz)) 7 (pt 64)),(up (up h0 96 (Bq MR)) 64 (Bq Cy))⟩
def Sj(a1:Int)(a2:Int)(a3:S8)(Cy:aL)(Cz:List aP)(MR:aL)(PU:S8):Option (Bool):=((f15 Cy.af Cz).bind fun z49=>(bif (decide (PU=([]:S8))) then ((f16 MR.af z49.1).bind fun VB=>(some VB)) else (some false)))
theorem aiU(hd:16≤d)(a1:Int)(a2:Int)(a3:S8){r:Bool}(hQ:FQ (aem r) Q)(Cy:aL)(Cz:List aP)(MR:aL)(PU:S8)(hS:Sj a1 a2 a3 Cy Cz MR PU=some r)(he:aA [7,9,11,12,13] [(64,.id 64),(96,.id 96)] [] st=arB a1 a2 a3 Cy Cz MR PU):ZX d Q awJ [] st:=by
 refine aC he ?_
 unfold Sj at hS
 refine zS (zL 3 3 ?_)
 refine ak hS (fun z49 VC hS=>zO (v:=(.bZ [(.agg (av z49.1)),(.d (.str z49.2))])) (aH:= []) (some 83) 4 (.eR 15 [(tm 81),(tm 82)]) (dP (args:= [(.agg (av Cy.af)),(dE bN Cz)]) (args':= [(.agg (av Cy.af)),(dE bN Cz)]) (l:= [(.agg (av Cy.af)),(dE bN Cz)]) (refs:= []) (r:=(.bZ [(.agg (av z49.1)),(.d (.str z49.2))])) (v:=(.bZ [(.agg (av z49.1)),(.d (.str z49.2))])) (gN:= []) (by kernel_rfl) (by kernel_rfl) (by kernel_rfl) (aY rfl (aY rfl eU)) (by kernel_rfl) (avE (d-1) (bO hd rfl) Cy.af Cz z49 VC) (by kernel_rfl) (by kernel_rfl) (by kernel_rfl) (by kernel_rfl)) (zL 6 10 (zK (zS (zL 4 4 ?_)))))
 refine sH 90 5 88 true (.lI .eql (tm 89) (.const (.string ⟨#[]⟩))) hS (fun hS=>?_) (fun hS=>?_)
 ·refine zL 5 10 (ak hS (fun VB aqm hS=>zG (some 96) 11 92 true (.call 16 [(tm 94),(tm 95)]) (aW (avH (d-1) (bO hd rfl) MR.af z49.1 VB aqm)) (zL 2 13 (zK ?_))))
  exact aG (au (aM hS hQ (fR (Ba VB))))
 ·refine zL 8 13 (zK ?_)
  exact aG (au (aM hS hQ (fR (Ba false))))
def arC(a1:Int)(a2:Int)(a3:S8)(vE:aL)(Ah:List aP):St:=⟨(up (up (up u0 9 (.r (.aI 80 0 0 Ah.length))) 7 (pt 64)) 2 (.d (.str a3))),(up (up h0 80 ⟨0,some (.own 81 6 (bN.cells Ah))⟩) 64 (Bq vE))⟩
def MS(a1:Int)(a2:Int)(a3:S8)(vE:aL)(Ah:List aP):Option (Bool):=((gJ a3 [10] [13,10]).bind fun Ra=>((f13 vE (jF.mk 1 Ra (ald.mk 0 0 0) (Q0.mk 0 0 0 0 false) ([]) 0 0 false 0 false)).bind fun wA=>(Sj a1 a2 a3 vE Ah wA.1 wA.2)))
theorem aiV(hd:16≤d)(a1:Int)(a2:Int)(a3:S8){r:Bool}(hQ:FQ (aem r) Q)(vE:aL)(Ah:List aP)(hS:MS a1 a2 a3 vE Ah=some r)(he:aA [2,7,9] [(64,.id 64),(80,.id 80)] [] st=arC a1 a2 a3 vE Ah):ZX d Q awK [] st:=by
 refine aC he ?_
 unfold MS at hS
 exact ay (ez (dx 2 2 (ak hS (fun Ra apy hS=>eT (some 73) 3 none (.call 14 [(tm 72),(.const (.string ⟨#[10]⟩)),(.const (.string ⟨#[13,10]⟩))]) (aW (E6 (d-1) (bO hd rfl) a3 [10] [13,10] Ra apy)) (dx 1 4 (ak hS (fun wA Vk hS=>eT (v:=(.bZ [(od wA.1),(.d (.str wA.2)),(dI 0)])) (aH:= []) (some 75) 5 none (.eR 13 [(tm 71),(tm 74)]) (dP (args:= [(od vE),(.agg ((dI 1)::((.d (.str Ra))::((dI 0)::((dI 0)::((dI 0)::((dI 0)::((dI 0)::((dI 0)::((dI 0)::((dB false)::(.nil::((dI 0)::((dI 0)::((dB false)::((dI 0)::((dB false):: [])))))))))))))))))]) (args':= [(od vE),(.agg ((dI 1)::((.d (.str Ra))::((dI 0)::((dI 0)::((dI 0)::((dI 0)::((dI 0)::((dI 0)::((dI 0)::((dB false)::(.nil::((dI 0)::((dI 0)::((dB false)::((dI 0)::((dB false):: [])))))))))))))))))]) (l:= [(od vE),(.agg ((dI 1)::((.d (.str Ra))::((dI 0)::((dI 0)::((dI 0)::((dI 0)::((dI 0)::((dI 0)::((dI 0)::((dB false)::((.d (.sl ([]:List Int).length (eI.cells ([]))))::((dI 0)::((dI 0)::((dB false)::((dI 0)::((dB false):: [])))))))))))))))))]) (refs:= []) (r:=(.bZ [(od wA.1),(.d (.str wA.2)),(dI 0)])) (v:=(.bZ [(od wA.1),(.d (.str wA.2)),(dI 0)])) (gN:= []) (by kernel_rfl) (by kernel_rfl) (by kernel_rfl) (aY rfl (aY rfl eU)) (by kernel_rfl) (avv (d-1) (bO hd rfl) vE (jF.mk 1 Ra (ald.mk 0 0 0) (Q0.mk 0 0 0 0 false) ([]) 0 0 false 0 false) wA Vk) (by kernel_rfl) (by kernel_rfl) (by kernel_rfl) (by kernel_rfl)) (dx 8 13 (iC (aq (aiU hd a1 a2 a3 hQ vE Ah wA.1 wA.2 hS (by exact (by kernel_rfl:_=(⟨(up (up (up (up (up u0 13 (dI 0)) 12 (.d (.str wA.2))) 11 (pt 96)) 9 (.d (.sl Ah.length (((bN.cells Ah).drop (0*bN.k)).take (Ah.length*bN.k))))) 7 (pt 64)),(up (up h0 96 (Bq wA.1)) 64 (Bq vE))⟩:St)).trans (by simp only [dJ.II];kernel_rfl)))))))))))))
def arD(a1:Int)(a2:Int)(a3:S8)(x:aL×(List aP)×Int):St:=⟨(up (up (up (up (up u0 38 (dI x.2.2)) 37 (dI (a3.length:Int))) 9 (.r (.aI 80 0 0 x.2.1.length))) 7 (pt 64)) 2 (.d (.str a3))),(up (up h0 80 ⟨0,some (.own 81 6 (bN.cells x.2.1))⟩) 64 (Bq x.1))⟩
def Ai(a1:Int)(a2:Int)(a3:S8)(x:aL×(List aP)×Int)(st:St):Prop:=aA [2,7,9,37,38] [(64,.id 64),(80,.id 80)] [] st=arD a1 a2 a3 x
def IA(a1:Int)(a2:Int)(a3:S8)(aBL:aL)(aw3:List aP):St:=⟨(up (up (up u0 9 (.r (.aI 80 0 0 aw3.length))) 7 (pt 64)) 2 (.d (.str a3))),(up (up h0 80 ⟨0,some (.own 81 6 (bN.cells aw3))⟩) 64 (Bq aBL))⟩
def Ga(a1:Int)(a2:Int)(a3:S8)(z:(aL×(List aP))⊕Bool)(e:PX)(st:St):Prop:=(match z with | .inl z=>e= .exit 0∧st=IA a1 a2 a3 z.1 z.2 | .inr z=>e= .ret∧dZ c4.fin st=ael z)
def Wv(a1:Int)(a2:Int)(a3:S8)(MT:aL)(xN:List aP)(rU:Int):St:=⟨(up (up (up (up (up u0 38 (dI rU)) 37 (dI (a3.length:Int))) 9 (.r (.aI 80 0 0 xN.length))) 7 (pt 64)) 2 (.d (.str a3))),(up (up h0 80 ⟨0,some (.own 81 6 (bN.cells xN))⟩) 64 (Bq MT))⟩
def lA(a1:Int)(a2:Int)(a3:S8)(MT:aL)(xN:List aP)(rU:Int):Option ((aL×(List aP)×Int)⊕((aL×(List aP))⊕Bool)):=((idx a3 rU).bind fun u6=>(bif (decide ((u6.toNat:Int)=10)) then ((fT 80 xN ([(aP.mk 2 10 0 ([]) ([]) ([]))]:List aP)).bind fun z53=>(some (.inl (MT,z53,(IntKind.i64.wrap (rU+1)))))) else ((idx a3 rU).bind fun IW=>(bif (decide (32≤(IW.toNat:Int))) then ((idx a3 rU).bind fun IX=>(bif (decide ((IX.toNat:Int)<127)) then ((idx a3 rU).bind fun IY=>((fT 80 xN ([(aP.mk 1 (IY.toNat:Int) 0 ([]) ([]) ([]))]:List aP)).bind fun z59=>(some (.inl (MT,z59,(IntKind.i64.wrap (rU+1))))))) else (some (.inr (.inr true))))) else (some (.inr (.inr true)))))))
theorem Sk(hd:16≤d)(a1:Int)(a2:Int)(a3:S8){r:(aL×(List aP)×Int)⊕((aL×(List aP))⊕Bool)}(hQ:FQ (bS (Ai a1 a2 a3) (Ga a1 a2 a3) r) Q)(MT:aL)(xN:List aP)(rU:Int)(hS:lA a1 a2 a3 MT xN rU=some r)(he:aA [2,7,9,37,38] [(64,.id 64),(80,.id 80)] [] st=Wv a1 a2 a3 MT xN rU):ZX d Q awG [] st:=by
 refine aC he ?_
 unfold lA at hS
 refine ay (bF (zS (zL 2 2 (zK ?_))))
 refine bF (zS (zL 2 2 ?_))
 refine ak hS (fun u6 VF hS=>zO (v:=(.d (.int .u8 (u6.toNat:Int)))) (aH:= []) (some 44) 3 (.j9 (tm 42) (tm 43)) (jk (kk:= .i64) (s:=a3) (j:=rU) (by kernel_rfl) (by kernel_rfl) VF) (sB 45 4 (.a_ .eql (tm 44) (.const (.int .u8 10))) hS (fun hS=>?_) (fun hS=>?_)))
 ·refine zL 1 5 (zK (zT (aN (zL 3 3 ?_))))
  refine ak hS (fun z53 aqn hS=>zO (v:=(.r (.aI 80 1 0 z53.length))) (aH:= [(80,⟨1,some (.own 81 6 (bN.cells z53))⟩)]) (some 49) 4 (.app 81 6 80 (tm 46) (tm 48)) (fJ bN (b:=80) (g:=0) (n:=xN.length) (xs:=xN) (ys:= [(aP.mk 2 10 0 ([]) ([]) ([]))]) ((congrArg (gm _) (by kernel_rfl:cK _ (.tmp 48)=(.r (.aI 392 1 0 (([(aP.mk 2 10 0 ([]) ([]) ([]))]:List aP).length))))).trans (en bN (e:=81) (k:=6) (xs:= [(aP.mk 2 10 0 ([]) ([]) ([]))]) (by kernel_rfl) rfl rfl)) rfl (by kernel_rfl) rfl (by kernel_rfl) rfl aqn) (zL 1 5 (zE ?_)))
  refine cq (cq (aq (aN (zL 2 2 (zE ?_)))))
  exact au (gC hS hQ)
 ·refine zL 1 5 (zK (zF (zS (zL 2 2 ?_))))
  refine ak hS (fun IW VD hS=>zO (v:=(.d (.int .u8 (IW.toNat:Int)))) (aH:= []) (some 53) 3 (.j9 (tm 51) (tm 52)) (jk (kk:= .i64) (s:=a3) (j:=rU) (by kernel_rfl) (by kernel_rfl) VD) (sB 54 4 (.a_ .geq (tm 53) (.const (.int .u8 32))) hS (fun hS=>?_) (fun hS=>?_)))
  ·refine zL 3 7 (ak hS (fun IX VE hS=>zG (v:=(.d (.int .u8 (IX.toNat:Int)))) (aH:= []) (some 58) 8 55 true (.j9 (tm 56) (tm 57)) (jk (kk:= .i64) (s:=a3) (j:=rU) (by kernel_rfl) (by kernel_rfl) VE) (sH 59 9 55 true (.a_ .lss (tm 58) (.const (.int .u8 127))) hS (fun hS=>?_) (fun hS=>?_))))
   ·refine zL 2 11 (zK (zT (aN (zL 3 3 ?_))))
    refine ak hS (fun IY aqo hS=>zO (v:=(.d (.int .u8 (IY.toNat:Int)))) (aH:= []) (some 64) 4 (.j9 (tm 62) (tm 63)) (jk (kk:= .i64) (s:=a3) (j:=rU) (by kernel_rfl) (by kernel_rfl) aqo) (zO (v:=(dI (IY.toNat:Int))) (aH:= []) (some 65) 5 (.xY .i64 (tm 64)) (yD (kk:= .u8) (a:=(IY.toNat:Int)) (by kernel_rfl) (AB _)) (zL 2 7 (ak hS (fun z59 VG hS=>zO (v:=(.r (.aI 80 1 0 z59.length))) (aH:= [(80,⟨1,some (.own 81 6 (bN.cells z59))⟩)]) (some 68) 8 (.app 81 6 80 (tm 61) (tm 67)) (fJ bN (b:=80) (g:=0) (n:=xN.length) (xs:=xN) (ys:= [(aP.mk 1 (IY.toNat:Int) 0 ([]) ([]) ([]))]) ((congrArg (gm _) (by kernel_rfl:cK _ (.tmp 67)=(.r (.aI 544 1 0 (([(aP.mk 1 (IY.toNat:Int) 0 ([]) ([]) ([]))]:List aP).length))))).trans (en bN (e:=81) (k:=6) (xs:= [(aP.mk 1 (IY.toNat:Int) 0 ([]) ([]) ([]))]) (by kernel_rfl) rfl rfl)) rfl (by kernel_rfl) rfl (by kernel_rfl) rfl VG) (zL 1 9 (zE ?_)))))))
    refine cq (cq (aq (aN (zL 2 2 (zE ?_)))))
    exact au (gC hS hQ)
   ·refine zL 2 11 (zK (zF (zS (zL 1 1 (zK ?_)))))
    exact aG (cU (cU (bD (au (xU hS hQ)))))
  ·refine zL 7 11 (zK (zF (zS (zL 1 1 (zK ?_)))))
   exact aG (cU (cU (bD (au (xU hS hQ)))))
def Ww(a1:Int)(a2:Int)(a3:S8)(Gb:aL)(CA:List aP)(MU:Int)(PW:Bool):St:=⟨(up (up (up (up (up (up u0 39 (dB PW)) 38 (dI MU)) 37 (dI (a3.length:Int))) 9 (.r (.aI 80 0 0 CA.length))) 7 (pt 64)) 2 (.d (.str a3))),(up (up h0 80 ⟨0,some (.own 81 6 (bN.cells CA))⟩) 64 (Bq Gb))⟩
def qw(a1:Int)(a2:Int)(a3:S8)(Gb:aL)(CA:List aP)(MU:Int)(PW:Bool):Option ((aL×(List aP)×Int)⊕((aL×(List aP))⊕Bool)):=(bif PW then (lA a1 a2 a3 Gb CA MU) else (some (.inr (.inl (Gb,CA)))))
theorem Gc(hd:16≤d)(a1:Int)(a2:Int)(a3:S8){r:(aL×(List aP)×Int)⊕((aL×(List aP))⊕Bool)}(hQ:FQ (bS (Ai a1 a2 a3) (Ga a1 a2 a3) r) Q)(Gb:aL)(CA:List aP)(MU:Int)(PW:Bool)(hS:qw a1 a2 a3 Gb CA MU PW=some r)(he:aA [2,7,9,37,38,39] [(64,.id 64),(80,.id 80)] [] st=Ww a1 a2 a3 Gb CA MU PW):ZX d Q awH [] st:=by
 refine aC he ?_
 unfold qw at hS
 refine ay (sR 39 hS (fun hS=>?_) (fun hS=>?_))
 ·exact zT (aJ (aq (Sk hd a1 a2 a3 hQ Gb CA MU hS (by kernel_rfl))))
 ·exact zF (aC (J:=IA a1 a2 a3 Gb CA) (by kernel_rfl) (cP (cG (au (iW hS hQ)))))
def xC(a1:Int)(a2:Int)(a3:S8)(x:aL×(List aP)×Int):Option ((aL×(List aP)×Int)⊕((aL×(List aP))⊕Bool)):=(bif (decide (x.2.2<(a3.length:Int))) then (qw a1 a2 a3 x.1 x.2.1 x.2.2 true) else (qw a1 a2 a3 x.1 x.2.1 x.2.2 false))
theorem aiW(hd:16≤d)(a1:Int)(a2:Int)(a3:S8){r:(aL×(List aP)×Int)⊕((aL×(List aP))⊕Bool)}(hQ:FQ (bS (Ai a1 a2 a3) (Ga a1 a2 a3) r) Q){x:aL×(List aP)×Int}(hS:xC a1 a2 a3 x=some r)(he:Ai a1 a2 a3 x st):ZX d Q awI [] st:=by
 refine aC he ?_
 unfold xC at hS
 refine zS ?_
 refine sB 39 1 (.a_ .lss (tm 38) (tm 37)) hS (fun hS=>?_) (fun hS=>?_)
 ·refine zK ?_
  exact Gc hd a1 a2 a3 hQ x.1 x.2.1 x.2.2 true hS (by kernel_rfl)
 ·refine zK ?_
  exact Gc hd a1 a2 a3 hQ x.1 x.2.1 x.2.2 false hS (by kernel_rfl)
def arE(a1:Int)(a2:Int)(a3:S8)(Bu:aL):St:=⟨(up (up u0 7 (pt 64)) 2 (.d (.str a3))),(up h0 64 (Bq Bu))⟩
def Sm(a1:Int)(a2:Int)(a3:S8)(Bu:aL):Option (Bool):=((bR (xC a1 a2 a3) (Bu,[],0)).bind fun nK=>(Sum.elim (fun ZN=>(MS a1 a2 a3 ZN.1 ZN.2)) (fun z62=>(some z62)) nK))
theorem aiX(hd:16≤d)(a1:Int)(a2:Int)(a3:S8){r:Bool}(hQ:FQ (aem r) Q)(Bu:aL)(hS:Sm a1 a2 a3 Bu=some r)(he:aA [2,7] [(64,.id 64)] [] st=arE a1 a2 a3 Bu):ZX d Q awL [] st:=by
 refine aC he ?_
 unfold Sm at hS
 refine zS (zL 1 1 (zK (ay (zS (zL 3 3 (zK ?_))))))
 refine bF (ak hS (fun nK VH hS=>dD (Ai a1 a2 a3) (Ga a1 a2 a3) (fun x st r Q h0 hS hQ=>aiW hd a1 a2 a3 hQ hS h0) (x:=(Bu,[],0)) (z:=nK) (by show aA _ _ _ _=_;kernel_rfl) VH ?_))
 rcases nK with ZN | z62
 ·replace hS:=(show _=_ from hS)
  simp only [IJ] at hS
  intro e bX _ hX
  obtain ⟨rfl,rfl⟩:_∧_:=hX
  exact cQ (aq (aiV hd a1 a2 a3 hQ ZN.1 ZN.2 hS (by kernel_rfl)))
 ·simp only [IK] at hS
  intro e bX _ hX
  obtain ⟨rfl,hX⟩:_∧_:=hX
  exact cU (bD (au (aM hS hQ (ko (by kernel_rfl) ((congrArg (fun s=>bA s 0 c4.res) hX).trans (Ba z62))))))
def f4(a1:Int)(a2:Int)(a3:S8):Option (Bool):=((f11 a1 a2 [[65]] [] (mo.mk (fun _=>0) (fun _=>0))).bind fun z26=>(jO.bind fun ZO=>(bif (!ZO) then (jO.bind fun z64=>(some z64)) else (bif (!decide (z26.2=0)) then (jO.bind fun zX=>(some zX)) else (bif (decide (1000<(a3.length:Int))) then (jO.bind fun z66=>(some z66)) else (Sm a1 a2 a3 z26.1))))))
theorem ay7(d:Nat)(hd:16≤d)(a1:Int)(a2:Int)(a3:S8)(r:Bool)(hS:f4 a1 a2 a3=some r):cg az bE d 4 [(dI a1),(dI a2),(.d (.str a3))] []=some ((dB r),[]):=by
 refine dN hd (fun Q hQ=>?_) auJ
 unfold f4 at hS
 show ZR _ Q awM [] _
 replace hQ:FQ (aem r) Q:=hQ
 refine zS (zL 1 1 (zK (zS (zL 4 4 ?_))))
 refine ak hS (fun z26 nt hS=>zO (v:=(.bZ [(od z26.1),(dI z26.2)])) (aH:= [(160,⟨2,none⟩)]) (some 21) 5 (.eR 11 [(tm 17),(tm 18),(tm 19),(.const (.slice .none 0 0)),(tm 20)]) (dP (args:= [(dI a1),(dI a2),(.r (.aI 160 1 0 (([[65]]:List S8).length))),.nil,(.agg (((dR .u64).row 4 (fun _=>0))++(((dR .u64).row 4 (fun _=>0))++ [])))]) (args':= [(dI a1),(dI a2),(.d (.sl ([[65]]:List S8).length (eu.cells ([[65]])))),.nil,(.agg (((dR .u64).row 4 (fun _=>0))++(((dR .u64).row 4 (fun _=>0))++ [])))]) (l:= [(dI a1),(dI a2),(.d (.sl ([[65]]:List S8).length (eu.cells ([[65]])))),(.d (.sl ([]:List gO).length (ep.cells ([])))),(.agg (((dR .u64).row 4 (fun _=>0))++(((dR .u64).row 4 (fun _=>0))++ [])))]) (refs:= [160]) (r:=(.bZ [(od z26.1),(dI z26.2)])) (v:=(.bZ [(od z26.1),(dI z26.2)])) (gN:= []) (by kernel_rfl) (by kernel_rfl) (by kernel_rfl) (aY rfl (aY rfl (aY (as8 eu (e:=9) (k:=1) (xs:= [[65]]) (by kernel_rfl) (by kernel_rfl) rfl rfl) (aY rfl (aY rfl eU))))) (by kernel_rfl) (auV (d-1) (bO hd rfl) a1 a2 [[65]] [] (mo.mk (fun _=>0) (fun _=>0)) z26 nt) (by kernel_rfl) (by kernel_rfl) (by kernel_rfl) (by kernel_rfl)) (zL 6 11 (zK (ay (zS ?_)))))
 refine ak hS (fun ZO aqU hS=>zO (some 24) 1 (.call 12 []) (aW (pY (d-1) (bO hd rfl) ZO aqU)) (zL 2 3 (sL 26 hS (fun hS=>?_) (fun hS=>?_))))
 ·refine zL 8 11 (zK (zT (zS ?_)))
  refine ak hS (fun z64 aqV hS=>zO (some 35) 1 (.call 12 []) (aW (pY (d-1) (bO hd rfl) z64 aqV)) (zL 1 2 (zK ?_)))
  exact aG (bD (au (aM hS hQ (fR (Ba z64)))))
 ·refine zL 1 4 (sH 28 5 26 false (.a_ .neq (tm 27) (ki 0)) hS (fun hS=>?_) (fun hS=>?_))
  ·refine zL 6 11 (zK (zT (zS ?_)))
   refine ak hS (fun zX aqW hS=>zO (some 35) 1 (.call 12 []) (aW (pY (d-1) (bO hd rfl) zX aqW)) (zL 1 2 (zK ?_)))
   exact aG (bD (au (aM hS hQ (fR (Ba zX)))))
  ·refine zL 4 9 (sH 33 10 30 false (.a_ .gtr (tm 32) (ki 1000)) hS (fun hS=>?_) (fun hS=>?_))
   ·refine zL 1 11 (zK (zT (zS ?_)))
    refine ak hS (fun z66 aee hS=>zO (some 35) 1 (.call 12 []) (aW (pY (d-1) (bO hd rfl) z66 aee)) (zL 1 2 (zK ?_)))
    exact aG (bD (au (aM hS hQ (fR (Ba z66)))))
   ·refine zL 1 11 (zK (zF ?_))
    exact aJ (aq (aiX hd a1 a2 a3 hQ z26.1 hS (by kernel_rfl)))
end
end Go.Proofs.YtobkkblijfhpoaaGreatDoor.Pm
