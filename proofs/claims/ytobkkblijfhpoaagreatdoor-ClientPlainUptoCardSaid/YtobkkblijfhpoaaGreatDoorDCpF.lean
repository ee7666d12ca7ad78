/- Typed functions, and that the codes are these. Printed by dec.py. -/
import Derived.Test.YtobkkblijfhpoaaGreatDoorDCpE
namespace Go.Proofs.YtobkkblijfhpoaaGreatDoor.Pm
noncomputable section
set_option maxRecDepth 1000000
set_option maxHeartbeats 20000000
set_option linter.unusedVariables false
set_option linter.unusedSimpArgs false
variable {d : Nat} {Q : PQ} {st : St}
/- farwriter/client.Check -/
def aqu:St:=⟨(up u0 2 (dI 0)),h0⟩
theorem aqv:bA (aqu) 0 c28.res=some ((dI 0),[]):=by
 kernel_rfl
def ayV(r:Unit)(e:PX)(st:St):Prop:=bh c28 0 ((dI 0),[]) e st
def ahB(a1:aL)(x:(Nat→Int)×Int):St:=⟨(up (up u0 39 (dI x.2)) 38 (.agg ((eI.row 9 x.1)++ []))),h0⟩
def ve(a1:aL)(x:(Nat→Int)×Int)(st:St):Prop:=aA [38,39] [] [] st=ahB a1 x
def Fp(a1:aL):St:=⟨u0,h0⟩
def AZ(a1:aL)(z:Unit)(e:PX)(st:St):Prop:=e= .exit 0∧st=Fp a1
def RU(a1:aL)(nB:Nat→Int)(o8:Int):St:=⟨(up (up u0 39 (dI o8)) 38 (.agg ((eI.row 9 nB)++ []))),h0⟩
def Da(a1:aL)(nB:Nat→Int)(o8:Int):Option (((Nat→Int)×Int)⊕Unit):=((iJ o8 9).bind fun m23=>(bif (!decide ((nB m23)=0)) then none else (some (.inl (nB,(IntKind.i64.wrap (o8+1)))))))
theorem NM(hd:6≤d)(a1:aL){r:((Nat→Int)×Int)⊕Unit}(hQ:FQ (bS (ve a1) (AZ a1) r) Q)(nB:Nat→Int)(o8:Int)(hS:Da a1 nB o8=some r)(he:aA [38,39] [] [] st=RU a1 nB o8):ZX d Q am1 [] st:=by
 refine aC he ?_
 unfold Da at hS
 refine ay (bF (zS ?_))
 refine ak hS (fun m23 aBe hS=>zO (v:=(dI (nB m23))) (aH:= []) (some 41) 1 (.M_ .false 9 1 (tm 38) (tm 39)) (I5 eI nB (kk:= .i64) (j:=o8) (by kernel_rfl) (by kernel_rfl) aBe rfl (by kernel_rfl) (by kernel_rfl)) (zL 1 2 (zK (zS (zL 1 1 ?_)))))
 refine sB 43 2 (.a_ .neq (tm 42) (ki 0)) hS (fun hS=>?_) (fun hS=>?_)
 ·cases hS
 ·refine zK (zF ?_)
  refine aJ (cq (aq (aN (zL 2 2 (zE ?_)))))
  exact au (gC hS hQ)
def RV(a1:aL)(Db:Nat→Int)(iD:Int)(lp:Bool):St:=⟨(up (up (up u0 40 (dB lp)) 39 (dI iD)) 38 (.agg ((eI.row 9 Db)++ []))),h0⟩
def wS(a1:aL)(Db:Nat→Int)(iD:Int)(lp:Bool):Option (((Nat→Int)×Int)⊕Unit):=(bif lp then (Da a1 Db iD) else (some (.inr ())))
theorem B9(hd:6≤d)(a1:aL){r:((Nat→Int)×Int)⊕Unit}(hQ:FQ (bS (ve a1) (AZ a1) r) Q)(Db:Nat→Int)(iD:Int)(lp:Bool)(hS:wS a1 Db iD lp=some r)(he:aA [38,39,40] [] [] st=RV a1 Db iD lp):ZX d Q am2 [] st:=by
 refine aC he ?_
 unfold wS at hS
 refine ay (sR 40 hS (fun hS=>?_) (fun hS=>?_))
 ·exact zT (aJ (aq (NM hd a1 hQ Db iD hS (by kernel_rfl))))
 ·exact zF (aC (J:=Fp a1) (by kernel_rfl) (cP (cG (au (iW hS hQ)))))
def Jx(a1:aL)(x:(Nat→Int)×Int):Option (((Nat→Int)×Int)⊕Unit):=(bif (decide (x.2<9)) then (wS a1 x.1 x.2 true) else (wS a1 x.1 x.2 false))
theorem Zm(hd:6≤d)(a1:aL){r:((Nat→Int)×Int)⊕Unit}(hQ:FQ (bS (ve a1) (AZ a1) r) Q){x:(Nat→Int)×Int}(hS:Jx a1 x=some r)(he:ve a1 x st):ZX d Q am3 [] st:=by
 refine aC he ?_
 unfold Jx at hS
 refine zS ?_
 refine sB 40 1 (.a_ .lss (tm 39) (ki 9)) hS (fun hS=>?_) (fun hS=>?_)
 ·refine zK ?_
  exact B9 hd a1 hQ x.1 x.2 true hS (by kernel_rfl)
 ·refine zK ?_
  exact B9 hd a1 hQ x.1 x.2 false hS (by kernel_rfl)
def f28(a1:aL):Option (Unit):=((f27 a1.Vars).bind fun z12=>((f52 a1.gj).bind fun fu=>((f53 a1.Part).bind fun mU=>((f54 a1.Psr).bind fun wT=>((f55 a1.af).bind fun fV=>((f56 a1.Neg).bind fun f_=>((f26 a1.cy).bind fun gA=>((f57 a1.Keys).bind fun iw=>((f58 a1.jE).bind fun z20=>((bR (Jx a1) ((fun i=>([fu,0,0,0,f_,0,0,0,0]:List Int).getD i 0),0)).bind fun z24=>(some ())))))))))))
theorem au6(d:Nat)(hd:6≤d)(a1:aL)(r:Unit)(hS:f28 a1=some r):cg az bE d 28 [(od a1)] []=some ((dI 0),[]):=by
 refine dN hd (fun Q hQ=>?_) aoO
 unfold f28 at hS
 show ZR _ Q am4 [] _
 replace hQ:FQ (ayV r) Q:=hQ
 refine zS (zL 2 2 (zK (zS (zL 2 2 ?_))))
 refine ak hS (fun z12 iz hS=>zO (some 10) 3 (c1 27 9) (aW (ad1 (d-1) (bO hd rfl) a1.Vars z12 iz)) (zL 5 8 (zK (ay (ay ?_)))))
 refine ez (dx 2 2 (ak hS (fun fu lO hS=>eT (some 15) 3 none (c1 52 14) (aW (ad2 (d-1) (bO hd rfl) a1.gj fu lO)) (dx 2 5 (ak hS (fun mU xJ hS=>eT (some 18) 6 none (c1 53 17) (aW (ad3 (d-1) (bO hd rfl) a1.Part mU xJ)) (dx 2 8 (ak hS (fun wT Mf hS=>eT (some 21) 9 none (c1 54 20) (aW (ad4 (d-1) (bO hd rfl) a1.Psr wT Mf)) (dx 2 11 (ak hS (fun fV qL hS=>eT (some 24) 12 none (c1 55 23) (aW (ad_ (d-1) (bO hd rfl) a1.af fV qL)) (dx 2 14 (ak hS (fun f_ nM hS=>eT (some 27) 15 none (c1 56 26) (aW (au3 (d-1) (bO hd rfl) a1.Neg f_ nM)) (dx 2 17 (ak hS (fun gA qM hS=>eT (some 30) 18 none (c1 26 29) (aW (ad0 (d-1) (bO hd rfl) a1.cy gA qM)) (dx 3 21 (ak hS (fun iw oQ hS=>eT (some 34) 22 none (c1 57 33) (aW (au4 (d-1) (bO hd rfl) a1.Keys iw oQ)) (dx 2 24 (ak hS (fun z20 oO hS=>eT (some 37) 25 none (c1 58 36) (aW (au5 (d-1) (bO hd rfl) a1.jE z20 oO)) (dx 2 27 (iC (aq (bF (ak hS (fun z24 uE hS=>dD (ve a1) (AZ a1) (fun x st r Q h0 hS hQ=>Zm hd a1 hQ hS h0) (x:=((fun i=>([fu,0,0,0,f_,0,0,0,0]:List Int).getD i 0),0)) (z:=z24) (by show aA _ _ _ _=_;kernel_rfl) uE ?_))))))))))))))))))))))))))))))
 intro e bX _ hX
 obtain ⟨rfl,rfl⟩:_∧_:=hX
 refine cQ (aq (zS (zL 1 1 (zK ?_))))
 exact aG (au (aM hS hQ (fR (aqv))))
/- farwriter/screen.Clone -/
def aqw(jJ:ah):St:=⟨(up u0 2 (pt 24)),(Ih h0 jJ 24 72 96 32)⟩
theorem aqx(jJ:ah):bA (aqw jJ) 0 c59.res=some ((.agg (iT jJ)),[]):=by
 exact fK (ids:= []) (ids':= [72,96,32]) (l:= [(.agg (cM jJ 72 0 96 0 32 0))]) (by kernel_rfl) (by kernel_rfl) (GN (aX rfl (aX rfl (aX (fU ag (e:=100) (k:=4) (xs:=jJ.aT.Cells) (by kernel_rfl) rfl rfl rfl rfl) (aX rfl (aX rfl (aX rfl (aX rfl (aX rfl (aX rfl (aX rfl (aX rfl (aX rfl (XL (XM (dR .u64)) (aX rfl (aX rfl (aX rfl (aX rfl (aX rfl (aX rfl (aX rfl (aX rfl (aX rfl (aX rfl (aX rfl (aX rfl (aX rfl (aX rfl (aX (fU ag (e:=100) (k:=4) (xs:=jJ.bT.Cells) (by kernel_rfl) rfl rfl rfl rfl) (aX rfl (aX (fU bJ (e:=91) (k:=1) (xs:=jJ.cD) (by kernel_rfl) rfl rfl rfl rfl) nZ)))))))))))))))))))))))))))))))
def ayW(r:ah)(e:PX)(st:St):Prop:=bh c59 0 ((.agg (iT r)),[]) e st
def ahC(a1:ah)(x:ah×(List bk)×Int):St:=⟨(up (up (up (up (up (up u0 17 (dI x.2.2)) 16 (dI (a1.cD.length:Int))) 15 (fC a1)) 3 (.r (.aI 32 0 0 x.2.1.length))) 2 (pt 24)) 1 (pt 16)),(up (up (up (up (up h0 32 ⟨0,some (.own 91 1 (bJ.cells x.2.1))⟩) 24 jq) 96 ⟨0,some (bU x.1)⟩) 72 ⟨0,some (bP x.1)⟩) 16 (kI x.1))⟩
def vg(a1:ah)(x:ah×(List bk)×Int)(st:St):Prop:=aA [1,2,3,15,16,17] [(16,.id 16),(72,.id 72),(96,.id 96),(24,.id 24),(32,.id 32)] [.cell 24 2 0 0 1,.cell 24 30 0 0 1,.cell 24 32 0 0 1] st=ahC a1 x
def Fq(a1:ah)(gF:ah)(jK:List bk):St:=⟨(up (up (up u0 3 (.r (.aI 32 0 0 jK.length))) 2 (pt 24)) 1 (pt 16)),(up (up (up (up (up h0 32 ⟨0,some (.own 91 1 (bJ.cells jK))⟩) 24 jq) 96 ⟨0,some (bU gF)⟩) 72 ⟨0,some (bP gF)⟩) 16 (kI gF))⟩
def A0(a1:ah)(z:(ah×(List bk)))(e:PX)(st:St):Prop:=e= .exit 0∧st=Fq a1 z.1 z.2
def RX(a1:ah)(pX:ah)(n7:List bk)(fy:Int):St:=⟨(up (up (up (up (up (up u0 17 (dI fy)) 16 (dI (a1.cD.length:Int))) 15 (fC a1)) 3 (.r (.aI 32 0 0 n7.length))) 2 (pt 24)) 1 (pt 16)),(up (up (up (up (up h0 32 ⟨0,some (.own 91 1 (bJ.cells n7))⟩) 24 jq) 96 ⟨0,some (bU pX)⟩) 72 ⟨0,some (bP pX)⟩) 16 (kI pX))⟩
def Dc(a1:ah)(pX:ah)(n7:List bk)(fy:Int):Option ((ah×(List bk)×Int)⊕((ah×(List bk)))):=((idx a1.cD fy).bind fun z23=>((f91 z23.Cells).bind fun z24=>((fT 24 n7 ([(bk.mk z24)]:List bk)).bind fun z25=>(some (.inl (pX,z25,(IntKind.i64.wrap (fy+1))))))))
theorem NN(hd:3≤d)(a1:ah){r:(ah×(List bk)×Int)⊕((ah×(List bk)))}(hQ:FQ (bS (vg a1) (A0 a1) r) Q)(pX:ah)(n7:List bk)(fy:Int)(hS:Dc a1 pX n7 fy=some r)(he:aA [1,2,3,15,16,17] [(16,.id 16),(72,.id 72),(96,.id 96),(24,.id 24),(32,.id 32)] [] st=RX a1 pX n7 fy):ZX d Q am6 [] st:=by
 refine aC he ?_
 unfold Dc at hS
 refine ay (bF (zS ?_))
 refine ak hS (fun z23 qJ hS=>zO (v:=(.cS (bJ.enc z23++(bJ.cells (a1.cD.drop ((fy:Int).toNat+1)))))) (aH:= []) (some 19) 1 (.fQ 91 1 (tm 15) (tm 17)) (eE bJ (kk:= .i64) (xs:=a1.cD) (j:=fy) (by kernel_rfl) (by kernel_rfl) qJ rfl (by intro h;cases h)) (zL 3 4 (zK (aN (zL 3 3 ?_)))))
 refine ak hS (fun z24 uE hS=>zO (some 24) 4 (c1 91 23) (aW (oz (d-1) (bO hd rfl) z23.Cells z24 uE)) (zL 1 5 (zO (v:=(.r (.aI 216 1 0 (([(bk.mk z24)]:List bk).length)))) (aH:= [(200,⟨2,none⟩),(216,⟨1,some (.own 91 1 (bJ.cells ([(bk.mk z24)])))⟩)]) (some 26) 6 (.tC 91 1 1 [(1,(.slice .none 0 0))] [(0,(1,(tm 25)))]) ((by kernel_rfl:aD _ _ 26 (cK _) (.tC 91 1 1 [(1,(.slice .none 0 0))] [(0,(1,(.tmp 25)))])=some ((.r (.aI 216 1 0 (([(bk.mk z24)]:List bk).length))),[(200,⟨2,none⟩),(216,⟨1,some (.own 91 1 [.sl z24.length (((ag.cells z24).drop (0*ag.k)).take (z24.length*ag.k))])⟩)])).trans (by simp only [dJ.II];rfl)) (ak hS (fun z25 nL hS=>zO (v:=(.r (.aI 32 1 0 z25.length))) (aH:= [(32,⟨1,some (.own 91 1 (bJ.cells z25))⟩)]) (some 27) 7 (.app 91 1 24 (tm 21) (tm 26)) (fJ bJ (b:=32) (g:=0) (n:=n7.length) (xs:=n7) (ys:= [(bk.mk z24)]) ((congrArg (gm _) (by kernel_rfl:cK _ (.tmp 26)=(.r (.aI 216 1 0 (([(bk.mk z24)]:List bk).length))))).trans (en bJ (e:=91) (k:=1) (xs:= [(bk.mk z24)]) (by kernel_rfl) rfl rfl)) rfl (by kernel_rfl) rfl (by kernel_rfl) rfl nL) (zL 1 8 (zE ?_)))))))
 refine cq (aq (aN (zL 2 2 (zE ?_))))
 exact au (gC hS hQ)
def RY(a1:ah)(lG:ah)(mS:List bk)(fL:Int)(j6:Bool):St:=⟨(up (up (up (up (up (up (up u0 18 (dB j6)) 17 (dI fL)) 16 (dI (a1.cD.length:Int))) 15 (fC a1)) 3 (.r (.aI 32 0 0 mS.length))) 2 (pt 24)) 1 (pt 16)),(up (up (up (up (up h0 32 ⟨0,some (.own 91 1 (bJ.cells mS))⟩) 24 jq) 96 ⟨0,some (bU lG)⟩) 72 ⟨0,some (bP lG)⟩) 16 (kI lG))⟩
def rA(a1:ah)(lG:ah)(mS:List bk)(fL:Int)(j6:Bool):Option ((ah×(List bk)×Int)⊕((ah×(List bk)))):=(bif j6 then (Dc a1 lG mS fL) else (some (.inr (lG,mS))))
theorem B_(hd:3≤d)(a1:ah){r:(ah×(List bk)×Int)⊕((ah×(List bk)))}(hQ:FQ (bS (vg a1) (A0 a1) r) Q)(lG:ah)(mS:List bk)(fL:Int)(j6:Bool)(hS:rA a1 lG mS fL j6=some r)(he:aA [1,2,3,15,16,17,18] [(16,.id 16),(72,.id 72),(96,.id 96),(24,.id 24),(32,.id 32)] [] st=RY a1 lG mS fL j6):ZX d Q am7 [] st:=by
 refine aC he ?_
 unfold rA at hS
 refine ay (sR 18 hS (fun hS=>?_) (fun hS=>?_))
 ·exact zT (aJ (aq (NN hd a1 hQ lG mS fL hS (by kernel_rfl))))
 ·exact zF (aC (J:=Fq a1 lG mS) (by kernel_rfl) (cP (cG (au (iW hS hQ)))))
def A1(a1:ah)(x:ah×(List bk)×Int):Option ((ah×(List bk)×Int)⊕((ah×(List bk)))):=(bif (decide (x.2.2<(a1.cD.length:Int))) then (rA a1 x.1 x.2.1 x.2.2 true) else (rA a1 x.1 x.2.1 x.2.2 false))
theorem Zn(hd:3≤d)(a1:ah){r:(ah×(List bk)×Int)⊕((ah×(List bk)))}(hQ:FQ (bS (vg a1) (A0 a1) r) Q){x:ah×(List bk)×Int}(hS:A1 a1 x=some r)(he:vg a1 x st):ZX d Q am8 [] st:=by
 refine aC he ?_
 unfold A1 at hS
 refine zS ?_
 refine sB 18 1 (.a_ .lss (tm 17) (tm 16)) hS (fun hS=>?_) (fun hS=>?_)
 ·refine zK ?_
  exact B_ hd a1 hQ x.1 x.2.1 x.2.2 true hS (by kernel_rfl)
 ·refine zK ?_
  exact B_ hd a1 hQ x.1 x.2.1 x.2.2 false hS (by kernel_rfl)
def f59(a1:ah):Option (ah):=((f45 a1.aT).bind fun z12=>((f45 a1.bT).bind fun fu=>((bR (A1 a1) ({a1 with aT:=(aV.mk z12.1 z12.2.1 z12.2.2),bT:=(aV.mk fu.1 fu.2.1 fu.2.2)},[],0)).bind fun z26=>(some (ah.mk z26.1.aT z26.1.Row z26.1.dS z26.1.eL z26.1.jo z26.1.dy z26.1.bM z26.1.gD z26.1.gU z26.1.bY z26.1.dF z26.1.aR z26.1.bT z26.1.iF z26.2)))))
theorem aea(d:Nat)(hd:3≤d)(a1:ah)(r:ah)(hS:f59 a1=some r):cg az bE d 59 [(.agg (av a1))] []=some ((.agg (iT r)),[]):=by
 refine dN hd (fun Q hQ=>?_) ao9
 unfold f59 at hS
 show ZR _ Q am9 [] _
 replace hQ:FQ (ayW r) Q:=hQ
 refine zS (zL 2 2 (zK (ay ?_)))
 refine ez (dx 2 2 (ak hS (fun z12 iz hS=>eT (some 8) 3 none (c1 45 7) (aW (Rb (d-1) (bO hd rfl) a1.aT z12 iz)) (dx 2 5 (ak hS (fun fu lO hS=>eT (some 11) 6 none (c1 45 10) (aW (Rb (d-1) (bO hd rfl) a1.bT fu lO)) (dx 4 10 (iC (aq (zS (zL 1 1 (zK (ay (zS (zL 4 4 (zK ?_))))))))))))))))
 refine bF (ak hS (fun z26 nt hS=>dD (vg a1) (A0 a1) (fun x st r Q h0 hS hQ=>Zn hd a1 hQ hS h0) (x:=({a1 with aT:=(aV.mk z12.1 z12.2.1 z12.2.2),bT:=(aV.mk fu.1 fu.2.1 fu.2.2)},[],0)) (z:=z26) (by show aA _ _ _ _=_;kernel_rfl) nt ?_))
 intro e bX _ hX
 obtain ⟨rfl,rfl⟩:_∧_:=hX
 refine cQ (aq (zS (zL 3 3 (zK (zS (zL 2 2 (zK ?_)))))))
 exact aG (au (aM hS hQ (fR (aqx (ah.mk z26.1.aT z26.1.Row z26.1.dS z26.1.eL z26.1.jo z26.1.dy z26.1.bM z26.1.gD z26.1.gU z26.1.bY z26.1.dF z26.1.aR z26.1.bT z26.1.iF z26.2)))))
/- farwriter/client.clone -/
def VJ(p1:aL):St:=⟨(up u0 2 (pt 24)),(up h0 24 (Bq p1))⟩
theorem aqy(p1:aL):bA (VJ p1) 0 YE.res=some ((od p1),[]):=by
 kernel_rfl
def ayX(r:aL)(e:PX)(st:St):Prop:=bh YE 0 ((od r),[]) e st
def f29(a1:aL):Option (aL):=((f59 a1.af).bind fun z4=>((f24 a1.cy.Names).bind fun z5=>((f25 a1.Vars).bind fun z6=>(some ({a1 with af:=z4,cy:=(bG.mk z5 a1.cy.At),Vars:=z6})))))
theorem au7(d:Nat)(hd:4≤d)(a1:aL)(r:aL)(hS:f29 a1=some r):cg az bE d 29 [(od a1)] []=some ((od r),[]):=by
 refine dN hd (fun Q hQ=>?_) aoP
 unfold f29 at hS
 show ZR _ Q ana [] _
 replace hQ:FQ (ayX r) Q:=hQ
 refine zS (zL 2 2 (zK (zS (zL 2 2 ?_))))
 refine ak hS (fun z4 jR hS=>zO (v:=(.agg (cM z4 48 1 49 1 50 1))) (aH:= [(48,⟨1,some (bP z4)⟩),(49,⟨1,some (bU z4)⟩),(50,⟨1,some (cA z4)⟩)]) (some 5) 3 (.eR 59 [(tm 4)]) (dP (args:= [(.agg (av a1.af))]) (args':= [(.agg (av a1.af))]) (l:= [(.agg (av a1.af))]) (refs:= []) (r:=(.agg (iT z4))) (v:=(.agg (cM z4 48 1 49 1 50 1))) (gN:= [(48,⟨1,some (bP z4)⟩),(49,⟨1,some (bU z4)⟩),(50,⟨1,some (cA z4)⟩)]) (by kernel_rfl) (by kernel_rfl) (by kernel_rfl) (aY rfl eU) (by kernel_rfl) (aea (d-1) (bO hd rfl) a1.af z4 jR) (by kernel_rfl) (by kernel_rfl) (by kernel_rfl) (by kernel_rfl)) (zL 2 5 (zK (ay ?_))))
 refine ez (dx 3 3 (ak hS (fun z5 tV hS=>eT (some 10) 4 none (c1 24 9) (aW (adY (d-1) (bO hd rfl) a1.cy.Names z5 tV)) (dx 2 6 (ak hS (fun z6 zw hS=>eT (some 13) 7 none (c1 25 12) (aW (adZ (d-1) (bO hd rfl) a1.Vars z6 zw)) (dx 5 12 (iC (aq (zS (zL 2 2 (zK ?_))))))))))))
 exact aG (au (aM hS hQ (ko (by kernel_rfl) ((congrArg (fun s=>bA s 0 YE.res) (by exact (by kernel_rfl:_=(⟨(up u0 2 (pt 24)),(up h0 24 ⟨0,some (.box (sO (aL.mk ({a1 with af:=z4,cy:=(bG.mk z5 a1.cy.At),Vars:=z6}.gj) ({a1 with af:=z4,cy:=(bG.mk z5 a1.cy.At),Vars:=z6}.Cr) ({a1 with af:=z4,cy:=(bG.mk z5 a1.cy.At),Vars:=z6}.Part) ({a1 with af:=z4,cy:=(bG.mk z5 a1.cy.At),Vars:=z6}.Psr) (ah.mk (aV.mk ({a1 with af:=z4,cy:=(bG.mk z5 a1.cy.At),Vars:=z6}.af.aT.bV) ({a1 with af:=z4,cy:=(bG.mk z5 a1.cy.At),Vars:=z6}.af.aT.cC) z4.aT.Cells) ({a1 with af:=z4,cy:=(bG.mk z5 a1.cy.At),Vars:=z6}.af.Row) ({a1 with af:=z4,cy:=(bG.mk z5 a1.cy.At),Vars:=z6}.af.dS) ({a1 with af:=z4,cy:=(bG.mk z5 a1.cy.At),Vars:=z6}.af.eL) ({a1 with af:=z4,cy:=(bG.mk z5 a1.cy.At),Vars:=z6}.af.jo) ({a1 with af:=z4,cy:=(bG.mk z5 a1.cy.At),Vars:=z6}.af.dy) ({a1 with af:=z4,cy:=(bG.mk z5 a1.cy.At),Vars:=z6}.af.bM) ({a1 with af:=z4,cy:=(bG.mk z5 a1.cy.At),Vars:=z6}.af.gD) ({a1 with af:=z4,cy:=(bG.mk z5 a1.cy.At),Vars:=z6}.af.gU) ({a1 with af:=z4,cy:=(bG.mk z5 a1.cy.At),Vars:=z6}.af.bY) ({a1 with af:=z4,cy:=(bG.mk z5 a1.cy.At),Vars:=z6}.af.dF) ({a1 with af:=z4,cy:=(bG.mk z5 a1.cy.At),Vars:=z6}.af.aR) (aV.mk ({a1 with af:=z4,cy:=(bG.mk z5 a1.cy.At),Vars:=z6}.af.bT.bV) ({a1 with af:=z4,cy:=(bG.mk z5 a1.cy.At),Vars:=z6}.af.bT.cC) z4.bT.Cells) ({a1 with af:=z4,cy:=(bG.mk z5 a1.cy.At),Vars:=z6}.af.iF) z4.cD) ({a1 with af:=z4,cy:=(bG.mk z5 a1.cy.At),Vars:=z6}.Neg) (bG.mk z5 ({a1 with af:=z4,cy:=(bG.mk z5 a1.cy.At),Vars:=z6}.cy.At)) z6 ({a1 with af:=z4,cy:=(bG.mk z5 a1.cy.At),Vars:=z6}.Keys) ({a1 with af:=z4,cy:=(bG.mk z5 a1.cy.At),Vars:=z6}.Mask) ({a1 with af:=z4,cy:=(bG.mk z5 a1.cy.At),Vars:=z6}.jE) ({a1 with af:=z4,cy:=(bG.mk z5 a1.cy.At),Vars:=z6}.Ie)) (.d (.sl z4.aT.Cells.length (((ag.cells z4.aT.Cells).drop (0*ag.k)).take (z4.aT.Cells.length*ag.k)))) (.d (.sl z4.bT.Cells.length (((ag.cells z4.bT.Cells).drop (0*ag.k)).take (z4.bT.Cells.length*ag.k)))) (.d (.sl z4.cD.length (((bJ.cells z4.cD).drop (0*bJ.k)).take (z4.cD.length*bJ.k)))) (.d (.sl z5.length (((eu.cells z5).drop (0*eu.k)).take (z5.length*eu.k)))) (.d (.sl z6.length (((ep.cells z6).drop (0*ep.k)).take (z6.length*ep.k))))))⟩)⟩:St)).trans (by simp only [dJ.II];kernel_rfl):dZ YE.fin _=VJ ({a1 with af:=z4,cy:=(bG.mk z5 a1.cy.At),Vars:=z6}))).trans (aqy ({a1 with af:=z4,cy:=(bG.mk z5 a1.cy.At),Vars:=z6}))))))
/- (*farwriter/iac.receiver).take -/
def ahD(p1:Int)(p2:Int)(p3:Int)(p4:S8)(p5:Bool)(p6:S8)(p7:S8)(p8:List cV):St:=⟨(up (up (up u0 1000003 .un) 1000002 .un) 1000001 .un),(up (up (up (up h0 3 ⟨1,some (.own 201 4 (eV.cells p8))⟩) 2 ⟨1,some (.own 5 1 (dM.cells p7))⟩) 1 ⟨1,some (.own 5 1 (dM.cells p6))⟩) 0 ⟨0,some (.box (ei (fj.mk (bW.mk p1 p2 p3 p4 p5) ([]) ([]) ([])) (.r (.aI 1 1 0 p6.length)) (.r (.aI 2 1 0 p7.length)) (.r (.aI 3 1 0 p8.length))))⟩)⟩
theorem ahE(p1:Int)(p2:Int)(p3:Int)(p4:S8)(p5:Bool)(p6:S8)(p7:S8)(p8:List cV):bA (ahD p1 p2 p3 p4 p5 p6 p7 p8) 4 UH.res=some ((.bZ []),[(.box (ei (fj.mk (bW.mk p1 p2 p3 p4 p5) ([]) ([]) ([])) (.r (.aI 1 0 0 p6.length)) (.r (.aI 2 0 0 p7.length)) (.r (.aI 3 0 0 p8.length)))),(.own 5 1 (dM.cells p6)),(.own 5 1 (dM.cells p7)),(.own 201 4 (eV.cells p8))]):=by
 kernel_rfl
def au8(r:Int×Int×Int×S8×Bool×S8×S8×(List cV))(e:PX)(st:St):Prop:=bh UH 4 ((.bZ []),[(.box (ei (fj.mk (bW.mk r.1 r.2.1 r.2.2.1 r.2.2.2.1 r.2.2.2.2.1) ([]) ([]) ([])) (.r (.aI 1 0 0 r.2.2.2.2.2.1.length)) (.r (.aI 2 0 0 r.2.2.2.2.2.2.1.length)) (.r (.aI 3 0 0 r.2.2.2.2.2.2.2.length)))),(.own 5 1 (dM.cells r.2.2.2.2.2.1)),(.own 5 1 (dM.cells r.2.2.2.2.2.2.1)),(.own 201 4 (eV.cells r.2.2.2.2.2.2.2))]) e st
def f156(a1:UInt8)(a2:Int)(a3:Int)(a4:Int)(a5:S8)(a6:Bool)(a7:S8)(a8:S8)(a9:List cV):Option (Int×Int×Int×S8×Bool×S8×S8×(List cV)):=(bif (decide (a2=0)) then (bif (decide ((a1.toNat:Int)=255)) then none else ((fT 1 a8 ([a1]:S8)).bind fun z2=>(some (a2,a3,a4,a5,a6,a7,z2,a9)))) else none)
theorem aqz(d:Nat)(hd:1≤d)(a1:UInt8)(a2:Int)(a3:Int)(a4:Int)(a5:S8)(a6:Bool)(a7:S8)(a8:S8)(a9:List cV)(r:Int×Int×Int×S8×Bool×S8×S8×(List cV))(hS:f156 a1 a2 a3 a4 a5 a6 a7 a8 a9=some r):cg az bE d 156 [(pt 0),(.d (.int .u8 (a1.toNat:Int)))] [(.box (ei (fj.mk (bW.mk a2 a3 a4 a5 a6) ([]) ([]) ([])) (.r (.aI 1 0 0 a7.length)) (.r (.aI 2 0 0 a8.length)) (.r (.aI 3 0 0 a9.length)))),(.own 5 1 (dM.cells a7)),(.own 5 1 (dM.cells a8)),(.own 201 4 (eV.cells a9))]=some ((.bZ []),[(.box (ei (fj.mk (bW.mk r.1 r.2.1 r.2.2.1 r.2.2.2.1 r.2.2.2.2.1) ([]) ([]) ([])) (.r (.aI 1 0 0 r.2.2.2.2.2.1.length)) (.r (.aI 2 0 0 r.2.2.2.2.2.2.1.length)) (.r (.aI 3 0 0 r.2.2.2.2.2.2.2.length)))),(.own 5 1 (dM.cells r.2.2.2.2.2.1)),(.own 5 1 (dM.cells r.2.2.2.2.2.2.1)),(.own 201 4 (eV.cells r.2.2.2.2.2.2.2))]):=by
 refine dN hd (fun Q hQ=>?_) agb
 unfold f156 at hS
 show ZR _ Q ace [] _
 replace hQ:FQ (au8 r) Q:=hQ
 refine zS (zL 5 5 (zK ?_))
 refine bF (zS ?_)
 refine sB 22 1 (ck 8 0) hS (fun hS=>?_) (fun hS=>?_)
 ·refine zL 1 2 (zK (zT (zS (zL 1 1 ?_))))
  refine sB 24 2 (.a_ .eql (tm 23) (.const (.int .u8 255))) hS (fun hS=>?_) (fun hS=>?_)
  ·cases hS
  ·refine zK (zF (aN (zL 7 7 ?_)))
   refine ak hS (fun z2 hz2 hS=>zO (v:=(.r (.aI 2 1 0 z2.length))) (aH:= [(2,⟨1,some (.own 5 1 (dM.cells z2))⟩)]) (some 36) 8 (.app 5 1 1 (tm 33) (tm 35)) (fJ dM (b:=2) (g:=0) (n:=a8.length) (xs:=a8) (ys:= [a1]) ((congrArg (gm _) (by kernel_rfl:cK _ (.tmp 35)=(.r (.aI 288 1 0 (([a1]:S8).length))))).trans (en dM (e:=5) (k:=1) (xs:= [a1]) (by kernel_rfl) rfl rfl)) rfl (by kernel_rfl) rfl (by kernel_rfl) rfl hz2) (zL 3 11 (zE ?_)))
   exact cq (au (aM hS hQ (fN (ahE a2 a3 a4 a5 a6 a7 z2 a9))))
 ·cases hS
/- (*farwriter/iac.receiver).flush -/
def ahF(p2:Int)(p3:Int)(p4:Int)(p5:S8)(p6:Bool)(p7:S8)(p8:S8)(p9:List cV):St:=⟨(up (up (up u0 1000003 .un) 1000002 .un) 1000001 .un),(up (up (up (up h0 3 ⟨1,some (.own 201 4 (eV.cells p9))⟩) 2 ⟨1,some (.own 5 1 (dM.cells p8))⟩) 1 ⟨1,some (.own 5 1 (dM.cells p7))⟩) 0 ⟨0,some (.box (ei (fj.mk (bW.mk p2 p3 p4 p5 p6) ([]) ([]) ([])) (.r (.aI 1 1 0 p7.length)) (.r (.aI 2 1 0 p8.length)) (.r (.aI 3 1 0 p9.length))))⟩)⟩
theorem Pt(p2:Int)(p3:Int)(p4:Int)(p5:S8)(p6:Bool)(p7:S8)(p8:S8)(p9:List cV):bA (ahF p2 p3 p4 p5 p6 p7 p8 p9) 4 UI.res=some ((.bZ []),[(.box (ei (fj.mk (bW.mk p2 p3 p4 p5 p6) ([]) ([]) ([])) (.r (.aI 1 0 0 p7.length)) (.r (.aI 2 0 0 p8.length)) (.r (.aI 3 0 0 p9.length)))),(.own 5 1 (dM.cells p7)),(.own 5 1 (dM.cells p8)),(.own 201 4 (eV.cells p9))]):=by
 kernel_rfl
def au9(r:Int×Int×Int×S8×Bool×S8×S8×(List cV))(e:PX)(st:St):Prop:=bh UI 4 ((.bZ []),[(.box (ei (fj.mk (bW.mk r.1 r.2.1 r.2.2.1 r.2.2.2.1 r.2.2.2.2.1) ([]) ([]) ([])) (.r (.aI 1 0 0 r.2.2.2.2.2.1.length)) (.r (.aI 2 0 0 r.2.2.2.2.2.2.1.length)) (.r (.aI 3 0 0 r.2.2.2.2.2.2.2.length)))),(.own 5 1 (dM.cells r.2.2.2.2.2.1)),(.own 5 1 (dM.cells r.2.2.2.2.2.2.1)),(.own 201 4 (eV.cells r.2.2.2.2.2.2.2))]) e st
def f157(a1:Int)(a2:Int)(a3:Int)(a4:S8)(a5:Bool)(a6:S8)(a7:S8)(a8:List cV):Option (Int×Int×Int×S8×Bool×S8×S8×(List cV)):=(bif (decide (0<(a7.length:Int))) then ((fT 40 a8 ([(cV.mk 1 0 0 a7)]:List cV)).bind fun z2=>(some (a1,a2,a3,a4,a5,a6,[],z2))) else (some (a1,a2,a3,a4,a5,a6,a7,a8)))
theorem aqA(d:Nat)(hd:1≤d)(a1:Int)(a2:Int)(a3:Int)(a4:S8)(a5:Bool)(a6:S8)(a7:S8)(a8:List cV)(r:Int×Int×Int×S8×Bool×S8×S8×(List cV))(hS:f157 a1 a2 a3 a4 a5 a6 a7 a8=some r):cg az bE d 157 [(pt 0)] [(.box (ei (fj.mk (bW.mk a1 a2 a3 a4 a5) ([]) ([]) ([])) (.r (.aI 1 0 0 a6.length)) (.r (.aI 2 0 0 a7.length)) (.r (.aI 3 0 0 a8.length)))),(.own 5 1 (dM.cells a6)),(.own 5 1 (dM.cells a7)),(.own 201 4 (eV.cells a8))]=some ((.bZ []),[(.box (ei (fj.mk (bW.mk r.1 r.2.1 r.2.2.1 r.2.2.2.1 r.2.2.2.2.1) ([]) ([]) ([])) (.r (.aI 1 0 0 r.2.2.2.2.2.1.length)) (.r (.aI 2 0 0 r.2.2.2.2.2.2.1.length)) (.r (.aI 3 0 0 r.2.2.2.2.2.2.2.length)))),(.own 5 1 (dM.cells r.2.2.2.2.2.1)),(.own 5 1 (dM.cells r.2.2.2.2.2.2.1)),(.own 201 4 (eV.cells r.2.2.2.2.2.2.2))]):=by
 refine dN hd (fun Q hQ=>?_) agc
 unfold f157 at hS
 show ZR _ Q acf [] _
 replace hQ:FQ (au9 r) Q:=hQ
 refine zS (zL 5 5 ?_)
 refine sB 7 6 (.a_ .gtr (tm 6) (ki 0)) hS (fun hS=>?_) (fun hS=>?_)
 ·refine zK (zT (ay ?_))
  refine ez (dx 9 9 (eT (v:=(.d (.str a7))) (aH:= []) (some 17) 10 none (.su (tm 16)) (DZ (s:=a7) ((congrArg (gm _) (by kernel_rfl:cK _ (.tmp 16)=(.r (.aI 2 0 0 a7.length)))).trans (en dM (e:=5) (k:=1) (xs:=a7) (by kernel_rfl) rfl rfl)) rfl) (dx 2 12 (ak hS (fun z2 hz2 hS=>eT (v:=(.r (.aI 3 1 0 z2.length))) (aH:= [(3,⟨1,some (.own 201 4 (eV.cells z2))⟩)]) (some 20) 13 none (.app 201 4 40 (tm 12) (tm 19)) (fJ eV (b:=3) (g:=0) (n:=a8.length) (xs:=a8) (ys:= [(cV.mk 1 0 0 a7)]) ((congrArg (gm _) (by kernel_rfl:cK _ (.tmp 19)=(.r (.aI 160 1 0 (([(cV.mk 1 0 0 a7)]:List cV).length))))).trans (en eV (e:=201) (k:=4) (xs:= [(cV.mk 1 0 0 a7)]) (by kernel_rfl) rfl rfl)) rfl (by kernel_rfl) rfl (by kernel_rfl) rfl hz2) (dx 3 16 (iC (aq (aN (zL 4 4 (zE ?_)))))))))))
  exact au (aM hS hQ (fN (Pt a1 a2 a3 a4 a5 a6 [] z2)))
 ·refine zK (zF ?_)
  exact aJ (au (aM hS hQ (fN (Pt a1 a2 a3 a4 a5 a6 a7 a8))))
/- farwriter/iac.Feed -/
def ahG(tP:bW)(om:List cV):St:=⟨(up (up (up u0 6 (dI 0)) 5 (.r (.aI 451 0 0 om.length))) 4 (pt 40)),(up (up h0 451 ⟨0,some (.own 201 4 (eV.cells om))⟩) 40 ⟨0,some (.box (ES tP))⟩)⟩
theorem ahH(tP:bW)(om:List cV):bA (ahG tP om) 0 Pd.res=some ((.bZ [(.agg (ES tP)),(.r (.own 0 201 4 om.length (eV.cells om))),(dI 0)]),[]):=by
 exact fK (ids:= []) (ids':= [451]) (l:= [(.agg (ES tP)),(.r (.aI 451 0 0 om.length)),(dI 0)]) (by kernel_rfl) (by kernel_rfl) (CS (aX rfl (aX (fU eV (e:=201) (k:=4) (xs:=om) (by kernel_rfl) rfl rfl rfl rfl) (aX rfl nZ))))
def RZ(r:bW×(List cV))(e:PX)(st:St):Prop:=bh Pd 0 ((.bZ [(.agg (ES r.1)),(.r (.own 0 201 4 r.2.length (eV.cells r.2))),(dI 0)]),[]) e st
def Zo(a1:bW)(a2:S8)(kN:Int)(kO:Int)(jX:Int)(eM:S8)(jM:Bool)(rB:S8)(lX:S8)(o9:List cV):St:=⟨(up (up u0 8 (pt 176)) 4 (pt 40)),(up (up (up (up (up h0 453 ⟨0,some (.own 201 4 (eV.cells o9))⟩) 452 ⟨0,some (.own 5 1 (dM.cells lX))⟩) 160 ⟨0,some (.own 5 1 (dM.cells rB))⟩) 176 ⟨0,some (.box (ei (fj.mk (bW.mk kN kO jX eM jM) ([]) ([]) ([])) (.r (.aI 160 0 0 rB.length)) (.r (.aI 452 0 0 lX.length)) (.r (.aI 453 0 0 o9.length))))⟩) 40 Pb)⟩
def zH(a1:bW)(a2:S8)(kN:Int)(kO:Int)(jX:Int)(eM:S8)(jM:Bool)(rB:S8)(lX:S8)(o9:List cV):Option (bW×(List cV)):=((f157 kN kO jX eM jM rB lX o9).bind fun gA=>(some ((bW.mk gA.1 gA.2.1 gA.2.2.1 gA.2.2.2.2.2.1 gA.2.2.2.2.1),gA.2.2.2.2.2.2.2)))
theorem VK(hd:2≤d)(a1:bW)(a2:S8){r:bW×(List cV)}(hQ:FQ (RZ r) Q)(kN:Int)(kO:Int)(jX:Int)(eM:S8)(jM:Bool)(rB:S8)(lX:S8)(o9:List cV)(hS:zH a1 a2 kN kO jX eM jM rB lX o9=some r)(he:aA [4,8] [(40,.id 40),(176,.id 176),(160,.id 160),(452,.id 452),(453,.id 453)] [] st=Zo a1 a2 kN kO jX eM jM rB lX o9):ZX d Q acj [] st:=by
 refine aC he ?_
 unfold zH at hS
 refine zS (zL 1 1 ?_)
 refine ak hS (fun gA qM hS=>zO (some 34) 2 (.er 157 [(tm 33)]) (mg [176,160,452,453] (aqA (d-1) (bO hd rfl) kN kO jX eM jM rB lX o9 gA qM)) (zK (zS (zL 5 5 ?_))))
 refine zO (v:=(.d (.str gA.2.2.2.2.2.1))) (aH:= []) (some 40) 6 (.su (tm 39)) (DZ (s:=gA.2.2.2.2.2.1) ((congrArg (gm _) (by kernel_rfl:cK _ (.tmp 39)=(.r (.aI 160 1 0 gA.2.2.2.2.2.1.length)))).trans (en dM (e:=5) (k:=1) (xs:=gA.2.2.2.2.2.1) (by kernel_rfl) rfl rfl)) rfl) (zL 4 10 (zK (ay ?_)))
 exact ez (dx 11 11 (iC (aq (aG (au (aM hS hQ (fR (ahH (bW.mk gA.1 gA.2.1 gA.2.2.1 gA.2.2.2.2.2.1 gA.2.2.2.2.1) gA.2.2.2.2.2.2.2))))))))
def Zp(a1:bW)(a2:S8)(x:Int×Int×Int×S8×Bool×S8×S8×(List cV)×Int):St:=⟨(up (up (up (up (up u0 24 (dI x.2.2.2.2.2.2.2.2)) 23 (dI (a2.length:Int))) 8 (pt 176)) 4 (pt 40)) 1 (.d (.str a2))),(up (up (up (up (up h0 453 ⟨0,some (.own 201 4 (eV.cells x.2.2.2.2.2.2.2.1))⟩) 452 ⟨0,some (.own 5 1 (dM.cells x.2.2.2.2.2.2.1))⟩) 160 ⟨0,some (.own 5 1 (dM.cells x.2.2.2.2.2.1))⟩) 176 ⟨0,some (.box (ei (fj.mk (bW.mk x.1 x.2.1 x.2.2.1 x.2.2.2.1 x.2.2.2.2.1) ([]) ([]) ([])) (.r (.aI 160 0 0 x.2.2.2.2.2.1.length)) (.r (.aI 452 0 0 x.2.2.2.2.2.2.1.length)) (.r (.aI 453 0 0 x.2.2.2.2.2.2.2.1.length))))⟩) 40 Pb)⟩
def rC(a1:bW)(a2:S8)(x:Int×Int×Int×S8×Bool×S8×S8×(List cV)×Int)(st:St):Prop:=aA [1,4,8,23,24] [(40,.id 40),(176,.id 176),(160,.id 160),(452,(.cell 176 6)),(453,(.cell 176 7))] [.cell 176 6 452 5 1,.cell 176 7 453 201 4] st=Zp a1 a2 x
def Ca(a1:bW)(a2:S8)(si:Int)(wU:Int)(xX:Int)(lY:S8)(jr:Bool)(kQ:S8)(vh:S8)(gl:List cV):St:=⟨(up (up u0 8 (pt 176)) 4 (pt 40)),(up (up (up (up (up h0 453 ⟨0,some (.own 201 4 (eV.cells gl))⟩) 452 ⟨0,some (.own 5 1 (dM.cells vh))⟩) 160 ⟨0,some (.own 5 1 (dM.cells kQ))⟩) 176 ⟨0,some (.box (ei (fj.mk (bW.mk si wU xX lY jr) ([]) ([]) ([])) (.r (.aI 160 0 0 kQ.length)) (.r (.aI 452 0 0 vh.length)) (.r (.aI 453 0 0 gl.length))))⟩) 40 Pb)⟩
def wV(a1:bW)(a2:S8)(z:(Int×Int×Int×S8×Bool×S8×S8×(List cV)))(e:PX)(st:St):Prop:=e= .exit 0∧st=Ca a1 a2 z.1 z.2.1 z.2.2.1 z.2.2.2.1 z.2.2.2.2.1 z.2.2.2.2.2.1 z.2.2.2.2.2.2.1 z.2.2.2.2.2.2.2
def NP(a1:bW)(a2:S8)(Mg:Int)(Mh:Int)(Mi:Int)(Mj:S8)(Mk:Bool)(Ip:S8)(Iq:S8)(Ir:List cV)(Iu:Int):St:=⟨(up (up (up (up (up u0 24 (dI Iu)) 23 (dI (a2.length:Int))) 8 (pt 176)) 4 (pt 40)) 1 (.d (.str a2))),(up (up (up (up (up h0 453 ⟨0,some (.own 201 4 (eV.cells Ir))⟩) 452 ⟨0,some (.own 5 1 (dM.cells Iq))⟩) 160 ⟨0,some (.own 5 1 (dM.cells Ip))⟩) 176 ⟨0,some (.box (ei (fj.mk (bW.mk Mg Mh Mi Mj Mk) ([]) ([]) ([])) (.r (.aI 160 0 0 Ip.length)) (.r (.aI 452 0 0 Iq.length)) (.r (.aI 453 0 0 Ir.length))))⟩) 40 Pb)⟩
def sX(a1:bW)(a2:S8)(Mg:Int)(Mh:Int)(Mi:Int)(Mj:S8)(Mk:Bool)(Ip:S8)(Iq:S8)(Ir:List cV)(Iu:Int):Option ((Int×Int×Int×S8×Bool×S8×S8×(List cV)×Int)⊕((Int×Int×Int×S8×Bool×S8×S8×(List cV)))):=((idx a2 Iu).bind fun iw=>((f156 iw Mg Mh Mi Mj Mk Ip Iq Ir).bind fun z20=>(some (.inl (z20.1,z20.2.1,z20.2.2.1,z20.2.2.2.1,z20.2.2.2.2.1,z20.2.2.2.2.2.1,z20.2.2.2.2.2.2.1,z20.2.2.2.2.2.2.2,(IntKind.i64.wrap (Iu+1)))))))
theorem Ml(hd:2≤d)(a1:bW)(a2:S8){r:(Int×Int×Int×S8×Bool×S8×S8×(List cV)×Int)⊕((Int×Int×Int×S8×Bool×S8×S8×(List cV)))}(hQ:FQ (bS (rC a1 a2) (wV a1 a2) r) Q)(Mg:Int)(Mh:Int)(Mi:Int)(Mj:S8)(Mk:Bool)(Ip:S8)(Iq:S8)(Ir:List cV)(Iu:Int)(hS:sX a1 a2 Mg Mh Mi Mj Mk Ip Iq Ir Iu=some r)(he:aA [1,4,8,23,24] [(40,.id 40),(176,.id 176),(160,.id 160),(452,.id 452),(453,.id 453)] [] st=NP a1 a2 Mg Mh Mi Mj Mk Ip Iq Ir Iu):ZX d Q acg [] st:=by
 refine aC he ?_
 unfold sX at hS
 refine ay (bF (zS (zL 2 2 (zK (aN (zL 3 3 ?_))))))
 refine ak hS (fun iw oQ hS=>zO (v:=(.d (.int .u8 (iw.toNat:Int)))) (aH:= []) (some 30) 4 (.j9 (tm 28) (tm 29)) (jk (kk:= .i64) (s:=a2) (j:=Iu) (by kernel_rfl) (by kernel_rfl) oQ) (ak hS (fun z20 oO hS=>zO (some 31) 5 (.er 156 [(tm 27),(tm 30)]) (mg [176,160,452,453] (aqz (d-1) (bO hd rfl) iw Mg Mh Mi Mj Mk Ip Iq Ir z20 oO)) (zE (cq (aq (aN (zL 2 2 (zE ?_)))))))))
 exact au (gC hS hQ)
def NQ(a1:bW)(a2:S8)(nO:Int)(Fs:Int)(Fu:Int)(Fv:S8)(Fw:Bool)(Cb:S8)(Cc:S8)(Ce:List cV)(Mm:Int)(Pu:Bool):St:=⟨(up (up (up (up (up (up u0 25 (dB Pu)) 24 (dI Mm)) 23 (dI (a2.length:Int))) 8 (pt 176)) 4 (pt 40)) 1 (.d (.str a2))),(up (up (up (up (up h0 453 ⟨0,some (.own 201 4 (eV.cells Ce))⟩) 452 ⟨0,some (.own 5 1 (dM.cells Cc))⟩) 160 ⟨0,some (.own 5 1 (dM.cells Cb))⟩) 176 ⟨0,some (.box (ei (fj.mk (bW.mk nO Fs Fu Fv Fw) ([]) ([]) ([])) (.r (.aI 160 0 0 Cb.length)) (.r (.aI 452 0 0 Cc.length)) (.r (.aI 453 0 0 Ce.length))))⟩) 40 Pb)⟩
def mI(a1:bW)(a2:S8)(nO:Int)(Fs:Int)(Fu:Int)(Fv:S8)(Fw:Bool)(Cb:S8)(Cc:S8)(Ce:List cV)(Mm:Int)(Pu:Bool):Option ((Int×Int×Int×S8×Bool×S8×S8×(List cV)×Int)⊕((Int×Int×Int×S8×Bool×S8×S8×(List cV)))):=(bif Pu then (sX a1 a2 nO Fs Fu Fv Fw Cb Cc Ce Mm) else (some (.inr (nO,Fs,Fu,Fv,Fw,Cb,Cc,Ce))))
theorem zI(hd:2≤d)(a1:bW)(a2:S8){r:(Int×Int×Int×S8×Bool×S8×S8×(List cV)×Int)⊕((Int×Int×Int×S8×Bool×S8×S8×(List cV)))}(hQ:FQ (bS (rC a1 a2) (wV a1 a2) r) Q)(nO:Int)(Fs:Int)(Fu:Int)(Fv:S8)(Fw:Bool)(Cb:S8)(Cc:S8)(Ce:List cV)(Mm:Int)(Pu:Bool)(hS:mI a1 a2 nO Fs Fu Fv Fw Cb Cc Ce Mm Pu=some r)(he:aA [1,4,8,23,24,25] [(40,.id 40),(176,.id 176),(160,.id 160),(452,.id 452),(453,.id 453)] [] st=NQ a1 a2 nO Fs Fu Fv Fw Cb Cc Ce Mm Pu):ZX d Q ach [] st:=by
 refine aC he ?_
 unfold mI at hS
 refine ay (sR 25 hS (fun hS=>?_) (fun hS=>?_))
 ·exact zT (aJ (aq (Ml hd a1 a2 hQ nO Fs Fu Fv Fw Cb Cc Ce Mm hS (by kernel_rfl))))
 ·exact zF (aC (J:=Ca a1 a2 nO Fs Fu Fv Fw Cb Cc Ce) (by kernel_rfl) (cP (cG (au (iW hS hQ)))))
def o_(a1:bW)(a2:S8)(x:Int×Int×Int×S8×Bool×S8×S8×(List cV)×Int):Option ((Int×Int×Int×S8×Bool×S8×S8×(List cV)×Int)⊕((Int×Int×Int×S8×Bool×S8×S8×(List cV)))):=(bif (decide (x.2.2.2.2.2.2.2.2<(a2.length:Int))) then (mI a1 a2 x.1 x.2.1 x.2.2.1 x.2.2.2.1 x.2.2.2.2.1 x.2.2.2.2.2.1 x.2.2.2.2.2.2.1 x.2.2.2.2.2.2.2.1 x.2.2.2.2.2.2.2.2 true) else (mI a1 a2 x.1 x.2.1 x.2.2.1 x.2.2.2.1 x.2.2.2.2.1 x.2.2.2.2.2.1 x.2.2.2.2.2.2.1 x.2.2.2.2.2.2.2.1 x.2.2.2.2.2.2.2.2 false))
theorem VL(hd:2≤d)(a1:bW)(a2:S8){r:(Int×Int×Int×S8×Bool×S8×S8×(List cV)×Int)⊕((Int×Int×Int×S8×Bool×S8×S8×(List cV)))}(hQ:FQ (bS (rC a1 a2) (wV a1 a2) r) Q){x:Int×Int×Int×S8×Bool×S8×S8×(List cV)×Int}(hS:o_ a1 a2 x=some r)(he:rC a1 a2 x st):ZX d Q aci [] st:=by
 refine aC he ?_
 unfold o_ at hS
 refine zS ?_
 refine sB 25 1 (.a_ .lss (tm 24) (tm 23)) hS (fun hS=>?_) (fun hS=>?_)
 ·refine zK ?_
  exact zI hd a1 a2 hQ x.1 x.2.1 x.2.2.1 x.2.2.2.1 x.2.2.2.2.1 x.2.2.2.2.2.1 x.2.2.2.2.2.2.1 x.2.2.2.2.2.2.2.1 x.2.2.2.2.2.2.2.2 true hS (by kernel_rfl)
 ·refine zK ?_
  exact zI hd a1 a2 hQ x.1 x.2.1 x.2.2.1 x.2.2.2.1 x.2.2.2.2.1 x.2.2.2.2.2.1 x.2.2.2.2.2.2.1 x.2.2.2.2.2.2.2.1 x.2.2.2.2.2.2.2.2 false hS (by kernel_rfl)
def Zq(a1:bW)(a2:S8):St:=⟨(up (up (up u0 4 (pt 40)) 2 (pt 24)) 1 (.d (.str a2))),(up (up h0 40 Pb) 24 ⟨0,some (.box (ES a1))⟩)⟩
def zJ(a1:bW)(a2:S8):Option (bW×(List cV)):=((gz (decide (a1.oZ.length≤140737488355328))).bind fun eJ=>((bR (o_ a1 a2) (a1.Mode,a1.G9,a1.Bp,a1.oZ,a1.Over,a1.oZ,[],[],0)).bind fun z21=>(zH a1 a2 z21.1 z21.2.1 z21.2.2.1 z21.2.2.2.1 z21.2.2.2.2.1 z21.2.2.2.2.2.1 z21.2.2.2.2.2.2.1 z21.2.2.2.2.2.2.2)))
theorem VM(hd:2≤d)(a1:bW)(a2:S8){r:bW×(List cV)}(hQ:FQ (RZ r) Q)(hS:zJ a1 a2=some r)(he:aA [1,2,4] [(24,.id 24),(40,.id 40)] [] st=Zq a1 a2):ZX d Q ack [] st:=by
 refine aC he ?_
 unfold zJ at hS
 refine zS (zL 3 3 ?_)
 refine ak hS (fun eJ mF hS=>zO (v:=(.r (.aI 160 1 0 a1.oZ.length))) (aH:= [(160,⟨1,some (.own 5 1 (dM.cells a1.oZ))⟩)]) (some 19) 4 (.Ds 5 (tm 18)) (aki (s:=a1.oZ) (by kernel_rfl) mF) (zL 3 7 (zK (ay (zS (zL 3 3 (zK ?_)))))))
 refine bF (ak hS (fun z21 qY hS=>dD (rC a1 a2) (wV a1 a2) (fun x st r Q h0 hS hQ=>VL hd a1 a2 hQ hS h0) (x:=(a1.Mode,a1.G9,a1.Bp,a1.oZ,a1.Over,a1.oZ,[],[],0)) (z:=z21) (by show aA _ _ _ _=_;kernel_rfl) qY ?_))
 intro e bX _ hX
 obtain ⟨rfl,rfl⟩:_∧_:=hX
 exact cQ (aq (VK hd a1 a2 hQ z21.1 z21.2.1 z21.2.2.1 z21.2.2.2.1 z21.2.2.2.2.1 z21.2.2.2.2.2.1 z21.2.2.2.2.2.2.1 z21.2.2.2.2.2.2.2 hS (by kernel_rfl)))
def f102(a1:bW)(a2:S8):Option (bW×(List cV)):=((f52 a1).bind fun z22=>(bif (!decide (z22=0)) then none else (zJ a1 a2)))
theorem aqB(d:Nat)(hd:2≤d)(a1:bW)(a2:S8)(r:bW×(List cV))(hS:f102 a1 a2=some r):cg az bE d 102 [(.agg (ES a1)),(.d (.str a2))] []=some ((.bZ [(.agg (ES r.1)),(.r (.own 0 201 4 r.2.length (eV.cells r.2))),(dI 0)]),[]):=by
 refine dN hd (fun Q hQ=>?_) afZ
 unfold f102 at hS
 show ZR _ Q acm [] _
 replace hQ:FQ (RZ r) Q:=hQ
 refine zS (zL 4 4 (zK (ay (zS (zL 1 1 ?_)))))
 refine ak hS (fun z22 uD hS=>zO (some 11) 2 (c1 52 10) (aW (ad2 (d-1) (bO hd rfl) a1 z22 uD)) (zL 1 3 (zK (zS (zL 1 1 ?_)))))
 refine sB 13 2 (.a_ .neq (tm 12) (ki 0)) hS (fun hS=>?_) (fun hS=>?_)
 ·cases hS
 ·refine zK (zF ?_)
  exact aJ (aq (VM hd a1 a2 hQ hS (by kernel_rfl)))
/- (*farwriter/client.worker).him -/
def ahI(p2:Bool):St:=⟨(up u0 4 (dB p2)),h0⟩
theorem Pv(p2:Bool):bA (ahI p2) 0 UK.res=some ((dB p2),[]):=by
 kernel_rfl
def au_(r:Bool)(e:PX)(st:St):Prop:=bh UK 0 ((dB r),[]) e st
def f107(a1:aF)(a2:List PD)(a3:Int):Option (Bool):=((iJ a3 256).bind fun m2=>(bif (decide (((a1.Client.Neg.qU m2).toNat:Int)=1)) then (some true) else (some false)))
theorem aqC(d:Nat)(hd:1≤d)(a1:aF)(a2:List PD)(a3:Int)(r:Bool)(hS:f107 a1 a2 a3=some r):cg az bE d 107 [(.cS (Ig.enc a1++a2)),(dI a3)] []=some ((dB r),[]):=by
 refine dN hd (fun Q hQ=>?_) af1
 unfold f107 at hS
 show ZR _ Q acn [] _
 replace hQ:FQ (au_ r) Q:=hQ
 refine zS (zL 1 1 (zK (zS (zL 6 6 ?_))))
 refine ak hS (fun m2 hm2 hS=>zO (v:=(.cS (List.drop (m2*1) ((Ig.enc a1++a2).drop 301)))) (aH:= []) (some 11) 7 (.xZ 256 1 (tm 10) (tm 6)) (as0 (kk:= .i64) (j:=a3) (by kernel_rfl) (by kernel_rfl) hm2) (zO (v:=(.d (.int .u8 ((a1.Client.Neg.qU m2).toNat:Int)))) (aH:= []) (some 12) 8 (lf 1 11) (aff dM (f:=a1.Client.Neg.qU) (nn:=256) (m:=m2) (post:=((dR .u64).nj 4 a1.Client.Neg.fO++((dR .u64).nj 4 a1.Client.Neg.eB++(.sl a1.Client.cy.Names.length (eu.cells a1.Client.cy.Names)::(.int .i64 a1.Client.cy.At::(.sl a1.Client.Vars.length (ep.cells a1.Client.Vars)::(dM.nj 19 a1.Client.Keys.jd++(dM.nj 19 a1.Client.Keys.tS++((dR .u64).nj 4 a1.Client.Mask.Bits++(.str a1.Client.jE.oZ::(.bool a1.Client.jE.Quote::(.bool a1.Client.Ie::(.str a1.sent::a2))))))))))))) (by kernel_rfl) (DX hm2) (by kernel_rfl) (by kernel_rfl)) (sB 13 9 (.a_ .eql (tm 12) (.const (.int .u8 1))) hS (fun hS=>?_) (fun hS=>?_))))
 ·refine zL 1 10 (zK ?_)
  exact aG (au (aM hS hQ (fR (Pv true))))
 ·refine zL 1 10 (zK ?_)
  exact aG (au (aM hS hQ (fR (Pv false))))
/- farwriter/nvt.In -/
def ahJ(p90:Bool)(p91:S8):St:=⟨(up (up u0 7 (.d (.str p91))) 6 (dB p90)),h0⟩
theorem ahK(p90:Bool)(p91:S8):bA (ahJ p90 p91) 0 UL.res=some ((.bZ [(dB p90),(.d (.str p91))]),[]):=by
 kernel_rfl
def aeb(r:Bool×S8)(e:PX)(st:St):Prop:=bh UL 0 ((.bZ [(dB r.1),(.d (.str r.2))]),[]) e st
def Zr(a1:Bool)(a2:S8)(a3:Bool)(x:Bool×S8×Int):St:=⟨(up (up (up (up (up u0 18 (dI x.2.2)) 17 (dI (a2.length:Int))) 8 (.r (.aI 72 0 0 x.2.1.length))) 1 (.d (.str a2))) 0 (dB x.1)),(up h0 72 ⟨0,some (.own 5 1 (dM.cells x.2.1))⟩)⟩
def oo(a1:Bool)(a2:S8)(a3:Bool)(x:Bool×S8×Int)(st:St):Prop:=aA [0,1,8,17,18] [(72,.id 72)] [] st=Zr a1 a2 a3 x
def Cf(a1:Bool)(a2:S8)(a3:Bool)(p88:Bool)(p89:S8):St:=⟨(up (up u0 8 (.r (.aI 72 0 0 p89.length))) 0 (dB p88)),(up h0 72 ⟨0,some (.own 5 1 (dM.cells p89))⟩)⟩
def rD(a1:Bool)(a2:S8)(a3:Bool)(z:(Bool×S8))(e:PX)(st:St):Prop:=e= .exit 0∧st=Cf a1 a2 a3 z.1 z.2
def NR(a1:Bool)(a2:S8)(a3:Bool)(jY:Bool)(jN:S8)(nC:UInt8)(jw:Int):St:=⟨(up (up (up (up (up (up u0 18 (dI jw)) 17 (dI (a2.length:Int))) 10 (.d (.int .u8 (nC.toNat:Int)))) 8 (.r (.aI 72 0 0 jN.length))) 1 (.d (.str a2))) 0 (dB jY)),(up h0 72 ⟨0,some (.own 5 1 (dM.cells jN))⟩)⟩
def pg(a1:Bool)(a2:S8)(a3:Bool)(jY:Bool)(jN:S8)(nC:UInt8)(jw:Int):Option ((Bool×S8×Int)⊕((Bool×S8))):=(bif (decide ((nC.toNat:Int)=13)) then (some (.inl (true,jN,(IntKind.i64.wrap (jw+1))))) else ((fT 1 jN ([nC]:S8)).bind fun z20=>(some (.inl (jY,z20,(IntKind.i64.wrap (jw+1)))))))
theorem zM(hd:1≤d)(a1:Bool)(a2:S8)(a3:Bool){r:(Bool×S8×Int)⊕((Bool×S8))}(hQ:FQ (bS (oo a1 a2 a3) (rD a1 a2 a3) r) Q)(jY:Bool)(jN:S8)(nC:UInt8)(jw:Int)(hS:pg a1 a2 a3 jY jN nC jw=some r)(he:aA [0,1,8,10,17,18] [(72,.id 72)] [] st=NR a1 a2 a3 jY jN nC jw):ZX d Q aco [.blk 1,.seq acp] st:=by
 refine aC he ?_
 unfold pg at hS
 refine zS (zL 1 1 ?_)
 refine sB 40 2 (.a_ .eql (tm 39) (.const (.int .u8 13))) hS (fun hS=>?_) (fun hS=>?_)
 ·refine zK (zT (aN (zL 1 1 (zE ?_))))
  refine cq (aq (aN (zL 2 2 (zE ?_))))
  exact au (gC hS hQ)
 ·refine zK (zF (aN (zL 3 3 ?_)))
  refine ak hS (fun z20 oO hS=>zO (v:=(.r (.aI 72 1 0 z20.length))) (aH:= [(72,⟨1,some (.own 5 1 (dM.cells z20))⟩)]) (some 44) 4 (.app 5 1 1 (tm 41) (tm 43)) (fJ dM (b:=72) (g:=0) (n:=jN.length) (xs:=jN) (ys:= [nC]) ((congrArg (gm _) (by kernel_rfl:cK _ (.tmp 43)=(.r (.aI 352 1 0 (([nC]:S8).length))))).trans (en dM (e:=5) (k:=1) (xs:= [nC]) (by kernel_rfl) rfl rfl)) rfl (by kernel_rfl) rfl (by kernel_rfl) rfl oO) (zL 1 5 (zE ?_)))
  refine cq (aq (aN (zL 2 2 (zE ?_))))
  exact au (gC hS hQ)
def NS(a1:Bool)(a2:S8)(a3:Bool)(lY:Bool)(jr:S8)(kQ:Int):St:=⟨(up (up (up (up (up u0 18 (dI kQ)) 17 (dI (a2.length:Int))) 8 (.r (.aI 72 0 0 jr.length))) 1 (.d (.str a2))) 0 (dB lY)),(up h0 72 ⟨0,some (.own 5 1 (dM.cells jr))⟩)⟩
def sY(a1:Bool)(a2:S8)(a3:Bool)(lY:Bool)(jr:S8)(kQ:Int):Option ((Bool×S8×Int)⊕((Bool×S8))):=((idx a2 kQ).bind fun fV=>(bif lY then (bif (decide ((fV.toNat:Int)=10)) then ((fT 1 jr ([10]:S8)).bind fun z21=>(some (.inl (false,z21,(IntKind.i64.wrap (kQ+1)))))) else (bif (decide ((fV.toNat:Int)=0)) then ((fT 1 jr ([13]:S8)).bind fun z22=>(some (.inl (false,z22,(IntKind.i64.wrap (kQ+1)))))) else ((fT 1 jr ([13]:S8)).bind fun z23=>(pg a1 a2 a3 false z23 fV kQ)))) else (pg a1 a2 a3 lY jr fV kQ)))
theorem Mn(hd:1≤d)(a1:Bool)(a2:S8)(a3:Bool){r:(Bool×S8×Int)⊕((Bool×S8))}(hQ:FQ (bS (oo a1 a2 a3) (rD a1 a2 a3) r) Q)(lY:Bool)(jr:S8)(kQ:Int)(hS:sY a1 a2 a3 lY jr kQ=some r)(he:aA [0,1,8,17,18] [(72,.id 72)] [] st=NS a1 a2 a3 lY jr kQ):ZX d Q acq [] st:=by
 refine aC he ?_
 unfold sY at hS
 refine ay (bF (zS (zL 2 2 (zK (zS (zL 2 2 ?_))))))
 refine ak hS (fun fV qL hS=>zO (v:=(.d (.int .u8 (fV.toNat:Int)))) (aH:= []) (some 23) 3 (.j9 (tm 21) (tm 22)) (jk (kk:= .i64) (s:=a2) (j:=kQ) (by kernel_rfl) (by kernel_rfl) qL) (zL 1 4 (zK (ay (zS (zL 1 1 (zK ?_)))))))
 refine sR 24 hS (fun hS=>?_) (fun hS=>?_)
 ·refine zT (zS (zL 1 1 (zK (ay (zS (zL 1 1 (zK ?_)))))))
  refine bF (zS ?_)
  refine sB 27 1 (.a_ .eql (tm 25) (.const (.int .u8 10))) hS (fun hS=>?_) (fun hS=>?_)
  ·refine zL 1 2 (zK (zT (zS (zL 2 2 ?_))))
   refine ak hS (fun z21 qY hS=>zO (v:=(.r (.aI 72 1 0 z21.length))) (aH:= [(72,⟨1,some (.own 5 1 (dM.cells z21))⟩)]) (some 30) 3 (.app 5 1 1 (tm 28) (tm 29)) (fJ dM (b:=72) (g:=0) (n:=jr.length) (xs:=jr) (ys:= [10]) ((congrArg (gm _) (by kernel_rfl:cK _ (.tmp 29)=(.r (.aI 240 1 0 (([10]:S8).length))))).trans (en dM (e:=5) (k:=1) (xs:= [10]) (by kernel_rfl) rfl rfl)) rfl (by kernel_rfl) rfl (by kernel_rfl) rfl qY) (zL 1 4 (zK ?_)))
   refine cP (aaW rfl (cG (cG (cQ (aq (aN (zL 2 2 (zE ?_))))))))
   exact au (gC hS hQ)
  ·refine zL 1 2 (zK (zF (zS ?_)))
   refine sB 32 1 (.a_ .eql (tm 25) (.const (.int .u8 0))) hS (fun hS=>?_) (fun hS=>?_)
   ·refine zL 1 2 (zK (zT (zS (zL 2 2 ?_))))
    refine ak hS (fun z22 uD hS=>zO (v:=(.r (.aI 72 1 0 z22.length))) (aH:= [(72,⟨1,some (.own 5 1 (dM.cells z22))⟩)]) (some 35) 3 (.app 5 1 1 (tm 33) (tm 34)) (fJ dM (b:=72) (g:=0) (n:=jr.length) (xs:=jr) (ys:= [13]) ((congrArg (gm _) (by kernel_rfl:cK _ (.tmp 34)=(.r (.aI 280 1 0 (([13]:S8).length))))).trans (en dM (e:=5) (k:=1) (xs:= [13]) (by kernel_rfl) rfl rfl)) rfl (by kernel_rfl) rfl (by kernel_rfl) rfl uD) (zL 1 4 (zK ?_)))
    refine cP (aaW rfl (cG (cG (cQ (aq (aN (zL 2 2 (zE ?_))))))))
    exact au (gC hS hQ)
   ·refine zL 1 2 (zK (zF ?_))
    refine aJ (cq (aq (aN (zL 2 2 ?_))))
    refine ak hS (fun z23 qJ hS=>zO (v:=(.r (.aI 72 1 0 z23.length))) (aH:= [(72,⟨1,some (.own 5 1 (dM.cells z23))⟩)]) (some 38) 3 (.app 5 1 1 (tm 36) (tm 37)) (fJ dM (b:=72) (g:=0) (n:=jr.length) (xs:=jr) (ys:= [13]) ((congrArg (gm _) (by kernel_rfl:cK _ (.tmp 37)=(.r (.aI 304 1 0 (([13]:S8).length))))).trans (en dM (e:=5) (k:=1) (xs:= [13]) (by kernel_rfl) rfl rfl)) rfl (by kernel_rfl) rfl (by kernel_rfl) rfl qJ) (zL 1 4 (zK ?_)))
    exact zM hd a1 a2 a3 hQ false z23 fV kQ hS (by kernel_rfl)
 ·exact zF (aJ (aq (zM hd a1 a2 a3 hQ lY jr fV kQ hS (by kernel_rfl))))
def NT(a1:Bool)(a2:S8)(a3:Bool)(tY:Bool)(si:S8)(wU:Int)(xX:Bool):St:=⟨(up (up (up (up (up (up u0 19 (dB xX)) 18 (dI wU)) 17 (dI (a2.length:Int))) 8 (.r (.aI 72 0 0 si.length))) 1 (.d (.str a2))) 0 (dB tY)),(up h0 72 ⟨0,some (.own 5 1 (dM.cells si))⟩)⟩
def mJ(a1:Bool)(a2:S8)(a3:Bool)(tY:Bool)(si:S8)(wU:Int)(xX:Bool):Option ((Bool×S8×Int)⊕((Bool×S8))):=(bif xX then (sY a1 a2 a3 tY si wU) else (some (.inr (tY,si))))
theorem zN(hd:1≤d)(a1:Bool)(a2:S8)(a3:Bool){r:(Bool×S8×Int)⊕((Bool×S8))}(hQ:FQ (bS (oo a1 a2 a3) (rD a1 a2 a3) r) Q)(tY:Bool)(si:S8)(wU:Int)(xX:Bool)(hS:mJ a1 a2 a3 tY si wU xX=some r)(he:aA [0,1,8,17,18,19] [(72,.id 72)] [] st=NT a1 a2 a3 tY si wU xX):ZX d Q acr [] st:=by
 refine aC he ?_
 unfold mJ at hS
 refine ay (sR 19 hS (fun hS=>?_) (fun hS=>?_))
 ·exact zT (aJ (aq (Mn hd a1 a2 a3 hQ tY si wU hS (by kernel_rfl))))
 ·exact zF (aC (J:=Cf a1 a2 a3 tY si) (by kernel_rfl) (cP (cG (au (iW hS hQ)))))
def rE(a1:Bool)(a2:S8)(a3:Bool)(x:Bool×S8×Int):Option ((Bool×S8×Int)⊕((Bool×S8))):=(bif (decide (x.2.2<(a2.length:Int))) then (mJ a1 a2 a3 x.1 x.2.1 x.2.2 true) else (mJ a1 a2 a3 x.1 x.2.1 x.2.2 false))
theorem VN(hd:1≤d)(a1:Bool)(a2:S8)(a3:Bool){r:(Bool×S8×Int)⊕((Bool×S8))}(hQ:FQ (bS (oo a1 a2 a3) (rD a1 a2 a3) r) Q){x:Bool×S8×Int}(hS:rE a1 a2 a3 x=some r)(he:oo a1 a2 a3 x st):ZX d Q acs [] st:=by
 refine aC he ?_
 unfold rE at hS
 refine zS ?_
 refine sB 19 1 (.a_ .lss (tm 18) (tm 17)) hS (fun hS=>?_) (fun hS=>?_)
 ·refine zK ?_
  exact zN hd a1 a2 a3 hQ x.1 x.2.1 x.2.2 true hS (by kernel_rfl)
 ·refine zK ?_
  exact zN hd a1 a2 a3 hQ x.1 x.2.1 x.2.2 false hS (by kernel_rfl)
def Zs(a1:Bool)(a2:S8)(a3:Bool):St:=⟨(up (up u0 1 (.d (.str a2))) 0 (dB a1)),h0⟩
def Fx(a1:Bool)(a2:S8)(a3:Bool):Option (Bool×S8):=((bR (rE a1 a2 a3) (a1,[],0)).bind fun z24=>(some (z24.1,z24.2)))
theorem VO(hd:1≤d)(a1:Bool)(a2:S8)(a3:Bool){r:Bool×S8}(hQ:FQ (aeb r) Q)(hS:Fx a1 a2 a3=some r)(he:aA [0,1] [] [] st=Zs a1 a2 a3):ZX d Q acu [] st:=by
 refine aC he ?_
 unfold Fx at hS
 refine zS (zL 1 1 (zK (ay (zS (zL 3 3 (zK ?_))))))
 refine bF (ak hS (fun z24 uE hS=>dD (oo a1 a2 a3) (rD a1 a2 a3) (fun x st r Q h0 hS hQ=>VN hd a1 a2 a3 hQ hS h0) (x:=(a1,[],0)) (z:=z24) (by show aA _ _ _ _=_;kernel_rfl) uE ?_))
 intro e bX _ hX
 obtain ⟨rfl,rfl⟩:_∧_:=hX
 refine cQ (aq (ay ?_))
 exact ez (dx 2 2 (eT (v:=(.d (.str z24.2))) (aH:= []) (some 48) 3 none (.su (tm 47)) (DZ (s:=z24.2) ((congrArg (gm _) (by kernel_rfl:cK _ (.tmp 47)=(.r (.aI 72 0 0 z24.2.length)))).trans (en dM (e:=5) (k:=1) (xs:=z24.2) (by kernel_rfl) rfl rfl)) rfl) (dx 2 5 (iC (aq (aG (au (aM hS hQ (fR (ahK z24.1 z24.2))))))))))
def f158(a1:Bool)(a2:S8)(a3:Bool):Option (Bool×S8):=(bif a3 then none else (Fx a1 a2 a3))
theorem aqD(d:Nat)(hd:1≤d)(a1:Bool)(a2:S8)(a3:Bool)(r:Bool×S8)(hS:f158 a1 a2 a3=some r):cg az bE d 158 [(dB a1),(.d (.str a2)),(dB a3)] []=some ((.bZ [(dB r.1),(.d (.str r.2))]),[]):=by
 refine dN hd (fun Q hQ=>?_) agd
 unfold f158 at hS
 show ZR _ Q acv [] _
 replace hQ:FQ (aeb r) Q:=hQ
 refine zS (zL 2 2 (zK (ay (zS (zL 1 1 (zK ?_))))))
 refine sR 11 hS (fun hS=>?_) (fun hS=>?_)
 ·refine zT (zS (zL 1 1 ?_))
  cases hS
 ·exact zF (aJ (aq (VO hd a1 a2 a3 hQ hS (by kernel_rfl))))
/- farwriter/utf.Feed -/
def ahL(ir:List Int):St:=⟨(up (up (up u0 6 (dI 0)) 5 (.r (.aI 72 0 0 ir.length))) 4 (.d (.str ([])))),(up h0 72 ⟨0,some (.own 3 1 (eI.cells ir))⟩)⟩
theorem ahM(ir:List Int):bA (ahL ir) 0 UM.res=some ((.bZ [(.d (.str ([]))),(.r (.own 0 3 1 ir.length (eI.cells ir))),(dI 0)]),[]):=by
 exact fK (ids:= []) (ids':= [72]) (l:= [(.d (.str ([]))),(.r (.aI 72 0 0 ir.length)),(dI 0)]) (by kernel_rfl) (by kernel_rfl) (CS (aX rfl (aX (fU eI (e:=3) (k:=1) (xs:=ir) (by kernel_rfl) rfl rfl rfl rfl) (aX rfl nZ))))
def aec(r:(List Int))(e:PX)(st:St):Prop:=bh UM 0 ((.bZ [(.d (.str ([]))),(.r (.own 0 3 1 r.length (eI.cells r))),(dI 0)]),[]) e st
def Zt(a1:S8)(a2:S8)(x:S8×(List Int)):St:=⟨(up (up u0 8 (.r (.aI 72 0 0 x.2.length))) 1 (.d (.str x.1))),(up h0 72 ⟨0,some (.own 3 1 (eI.cells x.2))⟩)⟩
def wW(a1:S8)(a2:S8)(x:S8×(List Int))(st:St):Prop:=aA [1,8] [(72,.id 72)] [] st=Zt a1 a2 x
def Cg(a1:S8)(a2:S8)(nB:List Int):St:=⟨(up u0 8 (.r (.aI 72 0 0 nB.length))),(up h0 72 ⟨0,some (.own 3 1 (eI.cells nB))⟩)⟩
def Dd(a1:S8)(a2:S8)(z:((List Int)))(e:PX)(st:St):Prop:=e= .exit 0∧st=Cg a1 a2 z
def NU(a1:S8)(a2:S8)(j5:S8)(iX:List Int):St:=⟨(up (up u0 8 (.r (.aI 72 0 0 iX.length))) 1 (.d (.str j5))),(up h0 72 ⟨0,some (.own 3 1 (eI.cells iX))⟩)⟩
def sZ(a1:S8)(a2:S8)(j5:S8)(iX:List Int):Option ((S8×(List Int))⊕(((List Int)))):=((idx j5 0).bind fun tX=>(bif (decide ((tX.toNat:Int)<128)) then ((idx j5 0).bind fun xW=>((fT 8 iX ([(xW.toNat:Int)]:List Int)).bind fun z37=>((ni j5 1 (j5.length:Int)).bind fun IP=>(some (.inl (IP,z37)))))) else none))
theorem Mo(hd:2≤d)(a1:S8)(a2:S8){r:(S8×(List Int))⊕(((List Int)))}(hQ:FQ (bS (wW a1 a2) (Dd a1 a2) r) Q)(j5:S8)(iX:List Int)(hS:sZ a1 a2 j5 iX=some r)(he:aA [1,8] [(72,.id 72)] [] st=NU a1 a2 j5 iX):ZX d Q acw [] st:=by
 refine aC he ?_
 unfold sZ at hS
 refine bF (ay (zS (zL 1 1 ?_)))
 refine ak hS (fun tX Me hS=>zO (v:=(.d (.int .u8 (tX.toNat:Int)))) (aH:= []) (some 24) 2 (.j9 (tm 23) (ki 0)) (jk (kk:= .i64) (s:=j5) (j:=0) (by kernel_rfl) (by kernel_rfl) Me) (sB 25 3 (.a_ .lss (tm 24) (.const (.int .u8 128))) hS (fun hS=>?_) (fun hS=>?_)))
 ·refine zK (zT (ay ?_))
  exact ez (dx 2 2 (ak hS (fun xW aqE hS=>eT (v:=(.d (.int .u8 (xW.toNat:Int)))) (aH:= []) (some 28) 3 none (.j9 (tm 27) (ki 0)) (jk (kk:= .i64) (s:=j5) (j:=0) (by kernel_rfl) (by kernel_rfl) aqE) (eT (v:=(dI (xW.toNat:Int))) (aH:= []) (some 29) 4 none (.xY .i64 (tm 28)) (yD (kk:= .u8) (a:=(xW.toNat:Int)) (by kernel_rfl) (AB _)) (dx 1 5 (ak hS (fun z37 E1 hS=>eT (v:=(.r (.aI 72 1 0 z37.length))) (aH:= [(72,⟨1,some (.own 3 1 (eI.cells z37))⟩)]) (some 31) 6 none (.app 3 1 8 (tm 26) (tm 30)) (fJ eI (b:=72) (g:=0) (n:=iX.length) (xs:=iX) (ys:= [(xW.toNat:Int)]) ((congrArg (gm _) (by kernel_rfl:cK _ (.tmp 30)=(.r (.aI 248 1 0 (([(xW.toNat:Int)]:List Int).length))))).trans (en eI (e:=3) (k:=1) (xs:= [(xW.toNat:Int)]) (by kernel_rfl) rfl rfl)) rfl (by kernel_rfl) rfl (by kernel_rfl) rfl E1) (dx 1 7 (ak hS (fun IP Ij hS=>eT (v:=(.d (.str IP))) (aH:= []) (some 33) 8 none (.tE (tm 32) (.some (ki 1)) .none) (Ay (s:=j5) (a:=1) (c:=(j5.length:Int)) (by kernel_rfl) (jQ _ (kk:= .i64) (j:=1) (by kernel_rfl)) (tJ _) Ij) (dx 2 10 (iC (aq (cP (cG (cQ (au (gC hS hQ))))))))))))))))))
 ·cases hS
def vk(a1:S8)(a2:S8)(x:S8×(List Int)):Option ((S8×(List Int))⊕(((List Int)))):=(bif (!decide (x.1=([]:S8))) then (sZ a1 a2 x.1 x.2) else (some (.inr x.2)))
theorem VP(hd:2≤d)(a1:S8)(a2:S8){r:(S8×(List Int))⊕(((List Int)))}(hQ:FQ (bS (wW a1 a2) (Dd a1 a2) r) Q){x:S8×(List Int)}(hS:vk a1 a2 x=some r)(he:wW a1 a2 x st):ZX d Q acy [] st:=by
 refine aC he ?_
 unfold vk at hS
 refine ay (zS (zL 1 1 ?_))
 refine sB 22 2 (.lI .neq (tm 21) (.const (.string ⟨#[]⟩))) hS (fun hS=>?_) (fun hS=>?_)
 ·refine zK (zT ?_)
  exact aJ (aq (Mo hd a1 a2 hQ x.1 x.2 hS (by kernel_rfl)))
 ·refine zK (zF ?_)
  exact aC (J:=Cg a1 a2 x.2) (by kernel_rfl) (cP (cG (au (iW hS hQ))))
def Zu(a1:S8)(a2:S8):St:=⟨(up (up u0 1 (.d (.str a2))) 0 (.d (.str a1))),h0⟩
def Fy(a1:S8)(a2:S8):Option ((List Int)):=((yA a1 a2).bind fun f_=>((bR (vk a1 a2) (f_,[])).bind fun tU=>(some tU)))
theorem VQ(hd:2≤d)(a1:S8)(a2:S8){r:(List Int)}(hQ:FQ (aec r) Q)(hS:Fy a1 a2=some r)(he:aA [0,1] [] [] st=Zu a1 a2):ZX d Q acz [] st:=by
 refine aC he ?_
 unfold Fy at hS
 refine zS (zL 1 1 (zK (ay (zS (zL 2 2 ?_)))))
 refine ak hS (fun f_ nM hS=>zO (v:=(.d (.str f_))) (aH:= []) (some 20) 3 (.lI .add (tm 18) (tm 19)) (aaZ (a:=a1) (c:=a2) (by kernel_rfl) (by kernel_rfl) nM) (zL 1 4 (zK ?_)))
 refine bF (ak hS (fun tU Ik hS=>dD (wW a1 a2) (Dd a1 a2) (fun x st r Q h0 hS hQ=>VP hd a1 a2 hQ hS h0) (x:=(f_,[])) (z:=tU) (by show aA _ _ _ _=_;kernel_rfl) Ik ?_))
 intro e bX _ hX
 obtain ⟨rfl,rfl⟩:_∧_:=hX
 refine cQ (aq (zS (zL 4 4 (zK ?_))))
 exact aG (au (aM hS hQ (fR (ahM tU))))
def f159(a1:S8)(a2:S8):Option ((List Int)):=((f53 a1).bind fun z40=>(Fy a1 a2))
theorem aqF(d:Nat)(hd:2≤d)(a1:S8)(a2:S8)(r:(List Int))(hS:f159 a1 a2=some r):cg az bE d 159 [(.d (.str a1)),(.d (.str a2))] []=some ((.bZ [(.d (.str ([]))),(.r (.own 0 3 1 r.length (eI.cells r))),(dI 0)]),[]):=by
 refine dN hd (fun Q hQ=>?_) age
 unfold f159 at hS
 show ZR _ Q acA [] _
 replace hQ:FQ (aec r) Q:=hQ
 refine zS (zL 3 3 (zK (ay (zS (zL 1 1 ?_)))))
 refine ak hS (fun z40 adW hS=>zO (some 14) 2 (c1 53 13) (aW (ad3 (d-1) (bO hd rfl) a1 z40 adW)) (zL 1 3 (zK (zS (zL 2 2 (zK (zF ?_)))))))
 exact aJ (aq (VQ hd a1 a2 hQ hS (by kernel_rfl)))
/- (*farwriter/parse.machine).emit -/
def ahN(p1:Int)(p2:Int)(p3:S8)(p4:S8)(p5:S8)(p6:List aP):St:=⟨(up u0 1000001 .un),(up (up h0 1 ⟨1,some (.own 81 6 (bN.cells p6))⟩) 0 ⟨0,some (.box ((dI p1)::((dI p2)::((.d (.str p3))::((.d (.str p4))::((.d (.str p5))::((.r (.aI 1 1 0 p6.length)):: [])))))))⟩)⟩
theorem ahO(p1:Int)(p2:Int)(p3:S8)(p4:S8)(p5:S8)(p6:List aP):bA (ahN p1 p2 p3 p4 p5 p6) 2 UN.res=some ((.bZ []),[(.box ((dI p1)::((dI p2)::((.d (.str p3))::((.d (.str p4))::((.d (.str p5))::((.r (.aI 1 0 0 p6.length)):: []))))))),(.own 81 6 (bN.cells p6))]):=by
 kernel_rfl
def avc(r:Int×Int×S8×S8×S8×(List aP))(e:PX)(st:St):Prop:=bh UN 2 ((.bZ []),[(.box ((dI r.1)::((dI r.2.1)::((.d (.str r.2.2.1))::((.d (.str r.2.2.2.1))::((.d (.str r.2.2.2.2.1))::((.r (.aI 1 0 0 r.2.2.2.2.2.length)):: []))))))),(.own 81 6 (bN.cells r.2.2.2.2.2))]) e st
def f239(a1:aP)(a2:Int)(a3:Int)(a4:S8)(a5:S8)(a6:S8)(a7:List aP):Option (Int×Int×S8×S8×S8×(List aP)):=((fT 80 a7 ([a1]:List aP)).bind fun z2=>(some (a2,a3,a4,a5,a6,z2)))
theorem VR(d:Nat)(hd:1≤d)(a1:aP)(a2:Int)(a3:Int)(a4:S8)(a5:S8)(a6:S8)(a7:List aP)(r:Int×Int×S8×S8×S8×(List aP))(hS:f239 a1 a2 a3 a4 a5 a6 a7=some r):cg az bE d 239 [(pt 0),(O_ a1)] [(.box ((dI a2)::((dI a3)::((.d (.str a4))::((.d (.str a5))::((.d (.str a6))::((.r (.aI 1 0 0 a7.length)):: []))))))),(.own 81 6 (bN.cells a7))]=some ((.bZ []),[(.box ((dI r.1)::((dI r.2.1)::((.d (.str r.2.2.1))::((.d (.str r.2.2.2.1))::((.d (.str r.2.2.2.2.1))::((.r (.aI 1 0 0 r.2.2.2.2.2.length)):: []))))))),(.own 81 6 (bN.cells r.2.2.2.2.2))]):=by
 refine dN hd (fun Q hQ=>?_) agt
 unfold f239 at hS
 show ZR _ Q acB [] _
 replace hQ:FQ (avc r) Q:=hQ
 refine zS (zL 1 1 (zK ?_))
 exact ez (dx 7 7 (ak hS (fun z2 hz2 hS=>eT (v:=(.r (.aI 1 1 0 z2.length))) (aH:= [(1,⟨1,some (.own 81 6 (bN.cells z2))⟩)]) (some 11) 8 none (.app 81 6 80 (tm 8) (tm 10)) (fJ bN (b:=1) (g:=0) (n:=a7.length) (xs:=a7) (ys:= [a1]) ((congrArg (gm _) (by kernel_rfl:cK _ (.tmp 10)=(.r (.aI 88 1 0 (([a1]:List aP).length))))).trans (en bN (e:=81) (k:=6) (xs:= [a1]) (by kernel_rfl) rfl rfl)) rfl (by kernel_rfl) rfl (by kernel_rfl) rfl hz2) (dx 3 11 (iC (au (aM hS hQ (fN (ahO a2 a3 a4 a5 a6 z2)))))))))
/- (*farwriter/parse.machine).control -/
def ahP(p2:Int)(p3:Int)(p4:S8)(p5:S8)(p6:S8)(p7:List aP)(p8:Bool):St:=⟨(up (up u0 1000001 .un) 4 (dB p8)),(up (up h0 1 ⟨1,some (.own 81 6 (bN.cells p7))⟩) 0 ⟨0,some (.box ((dI p2)::((dI p3)::((.d (.str p4))::((.d (.str p5))::((.d (.str p6))::((.r (.aI 1 1 0 p7.length)):: [])))))))⟩)⟩
theorem Pw(p2:Int)(p3:Int)(p4:S8)(p5:S8)(p6:S8)(p7:List aP)(p8:Bool):bA (ahP p2 p3 p4 p5 p6 p7 p8) 2 UO.res=some ((dB p8),[(.box ((dI p2)::((dI p3)::((.d (.str p4))::((.d (.str p5))::((.d (.str p6))::((.r (.aI 1 0 0 p7.length)):: []))))))),(.own 81 6 (bN.cells p7))]):=by
 kernel_rfl
def avd(r:Int×Int×S8×S8×S8×(List aP)×Bool)(e:PX)(st:St):Prop:=bh UO 2 ((dB r.2.2.2.2.2.2),[(.box ((dI r.1)::((dI r.2.1)::((.d (.str r.2.2.1))::((.d (.str r.2.2.2.1))::((.d (.str r.2.2.2.2.1))::((.r (.aI 1 0 0 r.2.2.2.2.2.1.length)):: []))))))),(.own 81 6 (bN.cells r.2.2.2.2.2.1))]) e st
def f242(a1:Int)(a2:Int)(a3:Int)(a4:S8)(a5:S8)(a6:S8)(a7:List aP):Option (Int×Int×S8×S8×S8×(List aP)×Bool):=(bif (decide (a1=27)) then none else (bif (decide (a1=24)) then none else (bif (decide (a1=26)) then none else (bif (decide (a1<32)) then ((f239 (aP.mk 2 a1 0 ([]) ([]) ([])) a2 a3 a4 a5 a6 a7).bind fun z5=>(some (z5.1,z5.2.1,z5.2.2.1,z5.2.2.2.1,z5.2.2.2.2.1,z5.2.2.2.2.2,true))) else ((f96 a1 127 159).bind fun z6=>(some (a2,a3,a4,a5,a6,a7,z6)))))))
theorem aqG(d:Nat)(hd:2≤d)(a1:Int)(a2:Int)(a3:Int)(a4:S8)(a5:S8)(a6:S8)(a7:List aP)(r:Int×Int×S8×S8×S8×(List aP)×Bool)(hS:f242 a1 a2 a3 a4 a5 a6 a7=some r):cg az bE d 242 [(pt 0),(dI a1)] [(.box ((dI a2)::((dI a3)::((.d (.str a4))::((.d (.str a5))::((.d (.str a6))::((.r (.aI 1 0 0 a7.length)):: []))))))),(.own 81 6 (bN.cells a7))]=some ((dB r.2.2.2.2.2.2),[(.box ((dI r.1)::((dI r.2.1)::((.d (.str r.2.2.1))::((.d (.str r.2.2.2.1))::((.d (.str r.2.2.2.2.1))::((.r (.aI 1 0 0 r.2.2.2.2.2.1.length)):: []))))))),(.own 81 6 (bN.cells r.2.2.2.2.2.1))]):=by
 refine dN hd (fun Q hQ=>?_) agu
 unfold f242 at hS
 show ZR _ Q acC [] _
 replace hQ:FQ (avd r) Q:=hQ
 refine zS (zL 1 1 (zK (zS (zL 1 1 (zK (ay ?_))))))
 refine bF (zS (zL 1 1 ?_))
 refine sB 10 2 (ck 9 27) hS (fun hS=>?_) (fun hS=>?_)
 ·cases hS
 ·refine zL 1 3 (zK (zF (zS (zL 1 1 ?_))))
  refine sB 13 2 (ck 12 24) hS (fun hS=>?_) (fun hS=>?_)
  ·cases hS
  ·refine zL 2 4 (sH 16 5 14 false (ck 15 26) hS (fun hS=>?_) (fun hS=>?_))
   ·cases hS
   ·refine zL 2 7 (zK (zF (zS (zL 1 1 ?_))))
    refine sB 20 2 (.a_ .lss (tm 19) (ki 32)) hS (fun hS=>?_) (fun hS=>?_)
    ·refine zL 1 3 (zK (zT (zS (zL 3 3 ?_))))
     refine ak hS (fun z5 tV hS=>zO (some 24) 4 (.er 239 [(tm 21),(tm 23)]) (mg [0,1] (VR (d-1) (bO hd rfl) (aP.mk 2 a1 0 ([]) ([]) ([])) a2 a3 a4 a5 a6 a7 z5 tV)) (zK (zS (zL 1 1 (zK ?_)))))
     exact aG (cU (bD (au (aM hS hQ (fR (Pw z5.1 z5.2.1 z5.2.2.1 z5.2.2.2.1 z5.2.2.2.2.1 z5.2.2.2.2.2 true))))))
    ·refine zL 1 3 (zK (zF (zS (zL 1 1 ?_))))
     refine ak hS (fun z6 zw hS=>zO (some 7) 2 (.call 96 [(tm 6),(ki 127),(ki 159)]) (aW (RA (d-1) (bO hd rfl) a1 127 159 z6 zw)) (zL 1 3 (zK ?_)))
     exact aG (cU (bD (au (aM hS hQ (fR (Pw a2 a3 a4 a5 a6 a7 z6))))))
/- (*farwriter/parse.machine).take -/
def ahQ(p1:Int)(p2:Int)(p3:S8)(p4:S8)(p5:S8)(p6:List aP):St:=⟨(up u0 1000001 .un),(up (up h0 1 ⟨1,some (.own 81 6 (bN.cells p6))⟩) 0 ⟨0,some (.box ((dI p1)::((dI p2)::((.d (.str p3))::((.d (.str p4))::((.d (.str p5))::((.r (.aI 1 1 0 p6.length)):: [])))))))⟩)⟩
theorem Px(p1:Int)(p2:Int)(p3:S8)(p4:S8)(p5:S8)(p6:List aP):bA (ahQ p1 p2 p3 p4 p5 p6) 2 UQ.res=some ((.bZ []),[(.box ((dI p1)::((dI p2)::((.d (.str p3))::((.d (.str p4))::((.d (.str p5))::((.r (.aI 1 0 0 p6.length)):: []))))))),(.own 81 6 (bN.cells p6))]):=by
 kernel_rfl
def Fz(r:Int×Int×S8×S8×S8×(List aP))(e:PX)(st:St):Prop:=bh UQ 2 ((.bZ []),[(.box ((dI r.1)::((dI r.2.1)::((.d (.str r.2.2.1))::((.d (.str r.2.2.2.1))::((.d (.str r.2.2.2.2.1))::((.r (.aI 1 0 0 r.2.2.2.2.2.length)):: []))))))),(.own 81 6 (bN.cells r.2.2.2.2.2))]) e st
def Zv(a1:Int)(a2:Int)(a3:Int)(a4:S8)(a5:S8)(a6:S8)(a7:List aP):St:=⟨(up (up (up u0 1000001 .un) 1 (dI a1)) 0 (pt 0)),(up (up h0 1 ⟨1,some (.own 81 6 (bN.cells a7))⟩) 0 ⟨0,some (.box ((dI a2)::((dI a3)::((.d (.str a4))::((.d (.str a5))::((.d (.str a6))::((.r (.aI 1 1 0 a7.length)):: [])))))))⟩)⟩
def FA(a1:Int)(a2:Int)(a3:Int)(a4:S8)(a5:S8)(a6:S8)(a7:List aP):Option (Int×Int×S8×S8×S8×(List aP)):=((f242 a1 a2 a3 a4 a5 a6 a7).bind fun z3=>(bif z3.2.2.2.2.2.2 then (some (z3.1,z3.2.1,z3.2.2.1,z3.2.2.2.1,z3.2.2.2.2.1,z3.2.2.2.2.2.1)) else (bif (decide (z3.1=0)) then ((f239 (aP.mk 1 a1 0 ([]) ([]) ([])) z3.1 z3.2.1 z3.2.2.1 z3.2.2.2.1 z3.2.2.2.2.1 z3.2.2.2.2.2.1).bind fun z4=>(some (z4.1,z4.2.1,z4.2.2.1,z4.2.2.2.1,z4.2.2.2.2.1,z4.2.2.2.2.2))) else none)))
theorem VS(hd:3≤d)(a1:Int)(a2:Int)(a3:Int)(a4:S8)(a5:S8)(a6:S8)(a7:List aP){r:Int×Int×S8×S8×S8×(List aP)}(hQ:FQ (Fz r) Q)(hS:FA a1 a2 a3 a4 a5 a6 a7=some r)(he:aA [0,1,1000001] [(0,.id 0),(1,.id 1)] [] st=Zv a1 a2 a3 a4 a5 a6 a7):ZX d Q Jf [] st:=by
 refine aC he ?_
 unfold FA at hS
 refine bF (zS (zL 2 2 ?_))
 refine ak hS (fun z3 hz3 hS=>zO (some 53) 3 (.er 242 [(tm 51),(tm 52)]) (mg [0,1] (aqG (d-1) (bO hd rfl) a1 a2 a3 a4 a5 a6 a7 z3 hz3)) (zL 1 4 (zK ?_)))
 refine sR 50 hS (fun hS=>?_) (fun hS=>?_)
 ·exact zT (aJ (cq (au (aM hS hQ (fN (Px z3.1 z3.2.1 z3.2.2.1 z3.2.2.2.1 z3.2.2.2.2.1 z3.2.2.2.2.2.1))))))
 ·refine zF (zS (zL 5 5 ?_))
  refine sB 60 6 (ck 59 0) hS (fun hS=>?_) (fun hS=>?_)
  ·refine zL 1 7 (zK (zT (aN (zL 3 3 ?_))))
   exact ak hS (fun z4 jR hS=>zO (some 64) 4 (.er 239 [(tm 61),(tm 63)]) (mg [0,1] (VR (d-1) (bO hd rfl) (aP.mk 1 a1 0 ([]) ([]) ([])) z3.1 z3.2.1 z3.2.2.1 z3.2.2.2.1 z3.2.2.2.2.1 z3.2.2.2.2.2.1 z4 jR)) (zE (cq (au (aM hS hQ (fN (Px z4.1 z4.2.1 z4.2.2.1 z4.2.2.2.1 z4.2.2.2.2.1 z4.2.2.2.2.2)))))))
  ·cases hS
def Zw(a1:Int)(a2:Int)(a3:Int)(a4:S8)(a5:S8)(a6:S8)(a7:List aP):St:=⟨(up (up (up (up u0 1000001 .un) 22 (dB false)) 1 (dI a1)) 0 (pt 0)),(up (up h0 1 ⟨1,some (.own 81 6 (bN.cells a7))⟩) 0 ⟨0,some (.box ((dI a2)::((dI a3)::((.d (.str a4))::((.d (.str a5))::((.d (.str a6))::((.r (.aI 1 1 0 a7.length)):: [])))))))⟩)⟩
def FB(a1:Int)(a2:Int)(a3:Int)(a4:S8)(a5:S8)(a6:S8)(a7:List aP):Option (Int×Int×S8×S8×S8×(List aP)):=(FA a1 a2 a3 a4 a5 a6 a7)
theorem VT(hd:3≤d)(a1:Int)(a2:Int)(a3:Int)(a4:S8)(a5:S8)(a6:S8)(a7:List aP){r:Int×Int×S8×S8×S8×(List aP)}(hQ:FQ (Fz r) Q)(hS:FB a1 a2 a3 a4 a5 a6 a7=some r)(he:aA [0,1,22,1000001] [(0,.id 0),(1,.id 1)] [] st=Zw a1 a2 a3 a4 a5 a6 a7):ZX d Q acD [.blk 0,.seq Jf] st:=by
 refine aC he ?_
 unfold FB at hS
 exact zF (aJ (cq (aq (VS hd a1 a2 a3 a4 a5 a6 a7 hQ hS (by kernel_rfl)))))
def Zx(a1:Int)(a2:Int)(a3:Int)(a4:S8)(a5:S8)(a6:S8)(a7:List aP):St:=⟨(up (up (up (up (up u0 1000001 .un) 16 (dB false)) 15 (dI a2)) 1 (dI a1)) 0 (pt 0)),(up (up h0 1 ⟨1,some (.own 81 6 (bN.cells a7))⟩) 0 ⟨0,some (.box ((dI a2)::((dI a3)::((.d (.str a4))::((.d (.str a5))::((.d (.str a6))::((.r (.aI 1 1 0 a7.length)):: [])))))))⟩)⟩
def FC(a1:Int)(a2:Int)(a3:Int)(a4:S8)(a5:S8)(a6:S8)(a7:List aP):Option (Int×Int×S8×S8×S8×(List aP)):=(bif (decide (a2=8)) then none else (bif (decide (a2=10)) then none else (FB a1 a2 a3 a4 a5 a6 a7)))
theorem VU(hd:3≤d)(a1:Int)(a2:Int)(a3:Int)(a4:S8)(a5:S8)(a6:S8)(a7:List aP){r:Int×Int×S8×S8×S8×(List aP)}(hQ:FQ (Fz r) Q)(hS:FC a1 a2 a3 a4 a5 a6 a7=some r)(he:aA [0,1,15,16,1000001] [(0,.id 0),(1,.id 1)] [] st=Zx a1 a2 a3 a4 a5 a6 a7):ZX d Q acE [.blk 0,.seq Jf] st:=by
 refine aC he ?_
 unfold FC at hS
 refine zF (ay (zS ?_))
 refine sB 23 1 (ck 15 8) hS (fun hS=>?_) (fun hS=>?_)
 ·cases hS
 ·refine zL 1 2 (zK (zF (aN ?_)))
  refine sB 24 1 (ck 15 10) hS (fun hS=>?_) (fun hS=>?_)
  ·cases hS
  ·refine zL 1 2 (zK ?_)
   exact VT hd a1 a2 a3 a4 a5 a6 a7 hQ hS (by kernel_rfl)
def Zy(a1:Int)(a2:Int)(a3:Int)(a4:S8)(a5:S8)(a6:S8)(a7:List aP):St:=⟨(up (up (up u0 1000001 .un) 1 (dI a1)) 0 (pt 0)),(up (up h0 1 ⟨1,some (.own 81 6 (bN.cells a7))⟩) 0 ⟨0,some (.box ((dI a2)::((dI a3)::((.d (.str a4))::((.d (.str a5))::((.d (.str a6))::((.r (.aI 1 1 0 a7.length)):: [])))))))⟩)⟩
def FD(a1:Int)(a2:Int)(a3:Int)(a4:S8)(a5:S8)(a6:S8)(a7:List aP):Option (Int×Int×S8×S8×S8×(List aP)):=(bif (decide (a2=7)) then none else (bif (decide (a2=9)) then none else (FC a1 a2 a3 a4 a5 a6 a7)))
theorem VV(hd:3≤d)(a1:Int)(a2:Int)(a3:Int)(a4:S8)(a5:S8)(a6:S8)(a7:List aP){r:Int×Int×S8×S8×S8×(List aP)}(hQ:FQ (Fz r) Q)(hS:FD a1 a2 a3 a4 a5 a6 a7=some r)(he:aA [0,1,1000001] [(0,.id 0),(1,.id 1)] [] st=Zy a1 a2 a3 a4 a5 a6 a7):ZX d Q acF [] st:=by
 refine aC he ?_
 unfold FD at hS
 refine ay (zS (zL 5 5 (zK ?_)))
 refine bF (ay (zS ?_))
 refine sB 17 1 (ck 15 7) hS (fun hS=>?_) (fun hS=>?_)
 ·cases hS
 ·refine zL 1 2 (zK (zF (aN ?_)))
  refine sB 18 1 (ck 15 9) hS (fun hS=>?_) (fun hS=>?_)
  ·cases hS
  ·refine zL 1 2 (zK ?_)
   exact VU hd a1 a2 a3 a4 a5 a6 a7 hQ hS (by kernel_rfl)
def f208(a1:Int)(a2:Int)(a3:Int)(a4:S8)(a5:S8)(a6:S8)(a7:List aP):Option (Int×Int×S8×S8×S8×(List aP)):=(bif (decide (a1<0)) then none else (bif (decide (1114111<a1)) then none else (FD a1 a2 a3 a4 a5 a6 a7)))
theorem aqH(d:Nat)(hd:3≤d)(a1:Int)(a2:Int)(a3:Int)(a4:S8)(a5:S8)(a6:S8)(a7:List aP)(r:Int×Int×S8×S8×S8×(List aP))(hS:f208 a1 a2 a3 a4 a5 a6 a7=some r):cg az bE d 208 [(pt 0),(dI a1)] [(.box ((dI a2)::((dI a3)::((.d (.str a4))::((.d (.str a5))::((.d (.str a6))::((.r (.aI 1 0 0 a7.length)):: []))))))),(.own 81 6 (bN.cells a7))]=some ((.bZ []),[(.box ((dI r.1)::((dI r.2.1)::((.d (.str r.2.2.1))::((.d (.str r.2.2.2.1))::((.d (.str r.2.2.2.2.1))::((.r (.aI 1 0 0 r.2.2.2.2.2.length)):: []))))))),(.own 81 6 (bN.cells r.2.2.2.2.2))]):=by
 refine dN hd (fun Q hQ=>?_) ago
 unfold f208 at hS
 show ZR _ Q acG [] _
 replace hQ:FQ (Fz r) Q:=hQ
 refine ay (zS (zL 1 1 ?_))
 refine sB 6 2 (.a_ .lss (tm 5) (ki 0)) hS (fun hS=>?_) (fun hS=>?_)
 ·cases hS
 ·refine zL 2 4 (sH 9 5 7 false (.a_ .gtr (tm 8) (ki 1114111)) hS (fun hS=>?_) (fun hS=>?_))
  ·cases hS
  ·refine zL 1 6 (zK (zF ?_))
   exact aJ (aq (VV hd a1 a2 a3 a4 a5 a6 a7 hQ hS (by kernel_rfl)))
/- farwriter/parse.Feed -/
def ahR(VW:bH)(Bk:List aP):St:=⟨(up (up (up u0 6 (dI 0)) 5 (.r (.aI 338 0 0 Bk.length))) 4 (pt 40)),(up (up h0 338 ⟨0,some (.own 81 6 (bN.cells Bk))⟩) 40 ⟨0,some (.box (qW VW))⟩)⟩
theorem ahS(VW:bH)(Bk:List aP):bA (ahR VW Bk) 0 UR.res=some ((.bZ [(.agg (qW VW)),(.r (.own 0 81 6 Bk.length (bN.cells Bk))),(dI 0)]),[]):=by
 exact fK (ids:= []) (ids':= [338]) (l:= [(.agg (qW VW)),(.r (.aI 338 0 0 Bk.length)),(dI 0)]) (by kernel_rfl) (by kernel_rfl) (CS (aX rfl (aX (fU bN (e:=81) (k:=6) (xs:=Bk) (by kernel_rfl) rfl rfl rfl rfl) (aX rfl nZ))))
def R1(r:bH×(List aP))(e:PX)(st:St):Prop:=bh UR 0 ((.bZ [(.agg (qW r.1)),(.r (.own 0 81 6 r.2.length (bN.cells r.2))),(dI 0)]),[]) e st
def Zz(a1:bH)(a2:List Int)(IZ:Int)(ZA:Int)(ZB:S8)(ZC:S8)(ZE:S8)(Bu:List aP):St:=⟨(up (up u0 8 (pt 160)) 4 (pt 40)),(up (up (up h0 339 ⟨0,some (.own 81 6 (bN.cells Bu))⟩) 160 ⟨0,some (.box ((dI IZ)::((dI ZA)::((.d (.str ZB))::((.d (.str ZC))::((.d (.str ZE))::((.r (.aI 339 0 0 Bu.length)):: [])))))))⟩) 40 Pa)⟩
def FE(a1:bH)(a2:List Int)(IZ:Int)(ZA:Int)(ZB:S8)(ZC:S8)(ZE:S8)(Bu:List aP):Option (bH×(List aP)):=(some ((bH.mk IZ ZA ZB ZC ZE),Bu))
theorem VX(hd:4≤d)(a1:bH)(a2:List Int){r:bH×(List aP)}(hQ:FQ (R1 r) Q)(IZ:Int)(ZA:Int)(ZB:S8)(ZC:S8)(ZE:S8)(Bu:List aP)(hS:FE a1 a2 IZ ZA ZB ZC ZE Bu=some r)(he:aA [4,8] [(40,.id 40),(160,.id 160),(339,.id 339)] [] st=Zz a1 a2 IZ ZA ZB ZC ZE Bu):ZX d Q acK [] st:=by
 refine aC he ?_
 unfold FE at hS
 exact ay (ez (dx 11 11 (iC (aq (aG (au (aM hS hQ (fR (ahS (bH.mk IZ ZA ZB ZC ZE) Bu)))))))))
def ZF(a1:bH)(a2:List Int)(x:Int×Int×S8×S8×S8×(List aP)×Int):St:=⟨(up (up (up (up (up u0 22 (dI x.2.2.2.2.2.2)) 21 (dI (a2.length:Int))) 20 (dL a2)) 8 (pt 160)) 4 (pt 40)),(up (up (up h0 339 ⟨0,some (.own 81 6 (bN.cells x.2.2.2.2.2.1))⟩) 160 ⟨0,some (.box ((dI x.1)::((dI x.2.1)::((.d (.str x.2.2.1))::((.d (.str x.2.2.2.1))::((.d (.str x.2.2.2.2.1))::((.r (.aI 339 0 0 x.2.2.2.2.2.1.length)):: [])))))))⟩) 40 Pa)⟩
def rF(a1:bH)(a2:List Int)(x:Int×Int×S8×S8×S8×(List aP)×Int)(st:St):Prop:=aA [4,8,20,21,22] [(40,.id 40),(160,.id 160),(339,(.cell 160 5))] [.cell 160 5 339 81 6] st=ZF a1 a2 x
def Ci(a1:bH)(a2:List Int)(p75:Int)(p76:Int)(p77:S8)(p78:S8)(p79:S8)(p80:List aP):St:=⟨(up (up u0 8 (pt 160)) 4 (pt 40)),(up (up (up h0 339 ⟨0,some (.own 81 6 (bN.cells p80))⟩) 160 ⟨0,some (.box ((dI p75)::((dI p76)::((.d (.str p77))::((.d (.str p78))::((.d (.str p79))::((.r (.aI 339 0 0 p80.length)):: [])))))))⟩) 40 Pa)⟩
def wX(a1:bH)(a2:List Int)(z:(Int×Int×S8×S8×S8×(List aP)))(e:PX)(st:St):Prop:=e= .exit 0∧st=Ci a1 a2 z.1 z.2.1 z.2.2.1 z.2.2.2.1 z.2.2.2.2.1 z.2.2.2.2.2
def NV(a1:bH)(a2:List Int)(vh:Int)(gl:Int)(kN:S8)(kO:S8)(jX:S8)(eM:List aP)(jM:Int):St:=⟨(up (up (up (up (up u0 22 (dI jM)) 21 (dI (a2.length:Int))) 20 (dL a2)) 8 (pt 160)) 4 (pt 40)),(up (up (up h0 339 ⟨0,some (.own 81 6 (bN.cells eM))⟩) 160 ⟨0,some (.box ((dI vh)::((dI gl)::((.d (.str kN))::((.d (.str kO))::((.d (.str jX))::((.r (.aI 339 0 0 eM.length)):: [])))))))⟩) 40 Pa)⟩
def s8(a1:bH)(a2:List Int)(vh:Int)(gl:Int)(kN:S8)(kO:S8)(jX:S8)(eM:List aP)(jM:Int):Option ((Int×Int×S8×S8×S8×(List aP)×Int)⊕((Int×Int×S8×S8×S8×(List aP)))):=((idx a2 jM).bind fun wT=>((f208 wT vh gl kN kO jX eM).bind fun fV=>(some (.inl (fV.1,fV.2.1,fV.2.2.1,fV.2.2.2.1,fV.2.2.2.2.1,fV.2.2.2.2.2,(IntKind.i64.wrap (jM+1)))))))
theorem Mq(hd:4≤d)(a1:bH)(a2:List Int){r:(Int×Int×S8×S8×S8×(List aP)×Int)⊕((Int×Int×S8×S8×S8×(List aP)))}(hQ:FQ (bS (rF a1 a2) (wX a1 a2) r) Q)(vh:Int)(gl:Int)(kN:S8)(kO:S8)(jX:S8)(eM:List aP)(jM:Int)(hS:s8 a1 a2 vh gl kN kO jX eM jM=some r)(he:aA [4,8,20,21,22] [(40,.id 40),(160,.id 160),(339,.id 339)] [] st=NV a1 a2 vh gl kN kO jX eM jM):ZX d Q acH [] st:=by
 refine aC he ?_
 unfold s8 at hS
 refine ay (bF (zS ?_))
 refine ak hS (fun wT Mf hS=>zO (v:=(.cS (eI.enc wT++(eI.cells (a2.drop ((jM:Int).toNat+1)))))) (aH:= []) (some 24) 1 (.fQ 3 1 (tm 20) (tm 22)) (eE eI (kk:= .i64) (xs:=a2) (j:=jM) (by kernel_rfl) (by kernel_rfl) Mf rfl (by intro h;cases h)) (zL 2 3 (zK (aN (zL 2 2 ?_)))))
 refine ak hS (fun fV qL hS=>zO (some 28) 3 (.er 208 [(tm 26),(tm 27)]) (mg [160,339] (aqH (d-1) (bO hd rfl) wT vh gl kN kO jX eM fV qL)) (zE (cq (aq (aN (zL 2 2 (zE ?_)))))))
 exact au (gC hS hQ)
def NW(a1:bH)(a2:List Int)(R2:Int)(tY:Int)(si:S8)(wU:S8)(xX:S8)(lY:List aP)(jr:Int)(kQ:Bool):St:=⟨(up (up (up (up (up (up u0 23 (dB kQ)) 22 (dI jr)) 21 (dI (a2.length:Int))) 20 (dL a2)) 8 (pt 160)) 4 (pt 40)),(up (up (up h0 339 ⟨0,some (.own 81 6 (bN.cells lY))⟩) 160 ⟨0,some (.box ((dI R2)::((dI tY)::((.d (.str si))::((.d (.str wU))::((.d (.str xX))::((.r (.aI 339 0 0 lY.length)):: [])))))))⟩) 40 Pa)⟩
def mK(a1:bH)(a2:List Int)(R2:Int)(tY:Int)(si:S8)(wU:S8)(xX:S8)(lY:List aP)(jr:Int)(kQ:Bool):Option ((Int×Int×S8×S8×S8×(List aP)×Int)⊕((Int×Int×S8×S8×S8×(List aP)))):=(bif kQ then (s8 a1 a2 R2 tY si wU xX lY jr) else (some (.inr (R2,tY,si,wU,xX,lY))))
theorem zP(hd:4≤d)(a1:bH)(a2:List Int){r:(Int×Int×S8×S8×S8×(List aP)×Int)⊕((Int×Int×S8×S8×S8×(List aP)))}(hQ:FQ (bS (rF a1 a2) (wX a1 a2) r) Q)(R2:Int)(tY:Int)(si:S8)(wU:S8)(xX:S8)(lY:List aP)(jr:Int)(kQ:Bool)(hS:mK a1 a2 R2 tY si wU xX lY jr kQ=some r)(he:aA [4,8,20,21,22,23] [(40,.id 40),(160,.id 160),(339,.id 339)] [] st=NW a1 a2 R2 tY si wU xX lY jr kQ):ZX d Q acI [] st:=by
 refine aC he ?_
 unfold mK at hS
 refine ay (sR 23 hS (fun hS=>?_) (fun hS=>?_))
 ·exact zT (aJ (aq (Mq hd a1 a2 hQ R2 tY si wU xX lY jr hS (by kernel_rfl))))
 ·exact zF (aC (J:=Ci a1 a2 R2 tY si wU xX lY) (by kernel_rfl) (cP (cG (au (iW hS hQ)))))
def rH(a1:bH)(a2:List Int)(x:Int×Int×S8×S8×S8×(List aP)×Int):Option ((Int×Int×S8×S8×S8×(List aP)×Int)⊕((Int×Int×S8×S8×S8×(List aP)))):=(bif (decide (x.2.2.2.2.2.2<(a2.length:Int))) then (mK a1 a2 x.1 x.2.1 x.2.2.1 x.2.2.2.1 x.2.2.2.2.1 x.2.2.2.2.2.1 x.2.2.2.2.2.2 true) else (mK a1 a2 x.1 x.2.1 x.2.2.1 x.2.2.2.1 x.2.2.2.2.1 x.2.2.2.2.2.1 x.2.2.2.2.2.2 false))
theorem VY(hd:4≤d)(a1:bH)(a2:List Int){r:(Int×Int×S8×S8×S8×(List aP)×Int)⊕((Int×Int×S8×S8×S8×(List aP)))}(hQ:FQ (bS (rF a1 a2) (wX a1 a2) r) Q){x:Int×Int×S8×S8×S8×(List aP)×Int}(hS:rH a1 a2 x=some r)(he:rF a1 a2 x st):ZX d Q acJ [] st:=by
 refine aC he ?_
 unfold rH at hS
 refine zS ?_
 refine sB 23 1 (.a_ .lss (tm 22) (tm 21)) hS (fun hS=>?_) (fun hS=>?_)
 ·refine zK ?_
  exact zP hd a1 a2 hQ x.1 x.2.1 x.2.2.1 x.2.2.2.1 x.2.2.2.2.1 x.2.2.2.2.2.1 x.2.2.2.2.2.2 true hS (by kernel_rfl)
 ·refine zK ?_
  exact zP hd a1 a2 hQ x.1 x.2.1 x.2.2.1 x.2.2.2.1 x.2.2.2.2.1 x.2.2.2.2.2.1 x.2.2.2.2.2.2 false hS (by kernel_rfl)
def ZG(a1:bH)(a2:List Int):St:=⟨(up (up (up u0 4 (pt 40)) 2 (pt 24)) 1 (dL a2)),(up (up h0 40 Pa) 24 ⟨0,some (.box (qW a1))⟩)⟩
def FH(a1:bH)(a2:List Int):Option (bH×(List aP)):=((bR (rH a1 a2) (a1.State,a1.Mark,a1.Inter,a1.Args,a1.Text,[],0)).bind fun f_=>(FE a1 a2 f_.1 f_.2.1 f_.2.2.1 f_.2.2.2.1 f_.2.2.2.2.1 f_.2.2.2.2.2))
theorem VZ(hd:4≤d)(a1:bH)(a2:List Int){r:bH×(List aP)}(hQ:FQ (R1 r) Q)(hS:FH a1 a2=some r)(he:aA [1,2,4] [(24,.id 24),(40,.id 40)] [] st=ZG a1 a2):ZX d Q acL [] st:=by
 refine aC he ?_
 unfold FH at hS
 refine zS (zL 4 4 (zK (ay (zS (zL 3 3 (zK ?_))))))
 refine bF (ak hS (fun f_ nM hS=>dD (rF a1 a2) (wX a1 a2) (fun x st r Q h0 hS hQ=>VY hd a1 a2 hQ hS h0) (x:=(a1.State,a1.Mark,a1.Inter,a1.Args,a1.Text,[],0)) (z:=f_) (by show aA _ _ _ _=_;kernel_rfl) nM ?_))
 intro e bX _ hX
 obtain ⟨rfl,rfl⟩:_∧_:=hX
 exact cQ (aq (VX hd a1 a2 hQ f_.1 f_.2.1 f_.2.2.1 f_.2.2.2.1 f_.2.2.2.2.1 f_.2.2.2.2.2 hS (by kernel_rfl)))
def f160(a1:bH)(a2:List Int):Option (bH×(List aP)):=((f54 a1).bind fun gA=>(FH a1 a2))
theorem aqI(d:Nat)(hd:4≤d)(a1:bH)(a2:List Int)(r:bH×(List aP))(hS:f160 a1 a2=some r):cg az bE d 160 [(.agg (qW a1)),(dL a2)] []=some ((.bZ [(.agg (qW r.1)),(.r (.own 0 81 6 r.2.length (bN.cells r.2))),(dI 0)]),[]):=by
 refine dN hd (fun Q hQ=>?_) agf
 unfold f160 at hS
 show ZR _ Q acM [] _
 replace hQ:FQ (R1 r) Q:=hQ
 refine zS (zL 4 4 (zK (ay (zS (zL 1 1 ?_)))))
 refine ak hS (fun gA qM hS=>zO (some 12) 2 (c1 54 11) (aW (ad4 (d-1) (bO hd rfl) a1 gA qM)) (zL 1 3 (zK (zS (zL 2 2 (zK (zF ?_)))))))
 exact aJ (aq (VZ hd a1 a2 hQ hS (by kernel_rfl)))
end
end Go.Proofs.YtobkkblijfhpoaaGreatDoor.Pm
