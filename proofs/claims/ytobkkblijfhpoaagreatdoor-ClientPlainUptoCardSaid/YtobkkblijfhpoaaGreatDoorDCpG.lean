/- Typed functions, and that the codes are these. Printed by dec.py. -/
import Derived.Test.YtobkkblijfhpoaaGreatDoorDCpF
namespace Go.Proofs.YtobkkblijfhpoaaGreatDoor.Pm
noncomputable section
set_option maxRecDepth 1000000
set_option maxHeartbeats 20000000
set_option linter.unusedVariables false
set_option linter.unusedSimpArgs false
variable {d : Nat} {Q : PQ} {st : St}
/- slices.IndexFunc[[]int,int] -/
def ahT:St:=⟨(up u0 4 (dI (-1))),h0⟩
theorem ahU:bA (ahT) 0 UT.res=some ((dI (-1)),[]):=by
 kernel_rfl
def ave(r:Unit)(e:PX)(st:St):Prop:=bh UT 0 ((dI (-1)),[]) e st
def f263(a1:List Int):Option (Unit):=(bif (decide (0<(a1.length:Int))) then none else (some ()))
theorem aqJ(d:Nat)(hd:1≤d)(a1:List Int)(r:Unit)(hS:f263 a1=some r):cg az bE d 263 [(dL a1),(.fn 245 [])] []=some ((dI (-1)),[]):=by
 refine dN hd (fun Q hQ=>?_) agx
 unfold f263 at hS
 show ZR _ Q acN [] _
 replace hQ:FQ (ave r) Q:=hQ
 refine zS (zL 1 1 (zK (ay (zS (zL 3 3 (zK ?_))))))
 refine bF (jI (zS ?_))
 refine sB 9 1 (.a_ .lss (tm 8) (tm 7)) hS (fun hS=>?_) (fun hS=>?_)
 ·cases hS
 ·refine zK (ay (zF ?_))
  refine cP (cG (cG (cQ (aq (zS (zL 1 1 (zK ?_)))))))
  exact aG (au (aM hS hQ (fR (ahU))))
/- slices.ContainsFunc[[]int,int] -/
def ahV:St:=⟨(up u0 4 (dB false)),h0⟩
theorem ahW:bA (ahV) 0 UU.res=some ((dB false),[]):=by
 kernel_rfl
def avf(r:Unit)(e:PX)(st:St):Prop:=bh UU 0 ((dB false),[]) e st
def f232(a1:List Int):Option (Unit):=((f263 a1).bind fun z2=>(some ()))
theorem aqK(d:Nat)(hd:2≤d)(a1:List Int)(r:Unit)(hS:f232 a1=some r):cg az bE d 232 [(dL a1),(.fn 245 [])] []=some ((dB false),[]):=by
 refine dN hd (fun Q hQ=>?_) agr
 unfold f232 at hS
 show ZR _ Q acO [] _
 replace hQ:FQ (avf r) Q:=hQ
 refine zS (zL 1 1 (zK (zS (zL 2 2 ?_))))
 refine ak hS (fun z2 hz2 hS=>zO (some 7) 3 (.call 263 [(tm 5),(tm 6)]) (aW (aqJ (d-1) (bO hd rfl) a1 z2 hz2)) (zL 2 5 (zK ?_)))
 exact aG (au (aM hS hQ (fR (ahW))))
/- farwriter/screen.actions -/
def ahX:St:=⟨(up u0 2 (dI 0)),h0⟩
theorem ahY:bA (ahX) 0 UW.res=some ((dI 0),[]):=by
 kernel_rfl
def avg(r:Unit)(e:PX)(st:St):Prop:=bh UW 0 ((dI 0),[]) e st
def ZH(a1:List aP)(x:Int):St:=⟨(up (up (up u0 7 (dI x)) 6 (dI (a1.length:Int))) 5 (dE bN a1)),h0⟩
def rI(a1:List aP)(x:Int)(st:St):Prop:=aA [5,6,7] [] [] st=ZH a1 x
def Cj(a1:List aP):St:=⟨u0,h0⟩
def wY(a1:List aP)(z:Unit)(e:PX)(st:St):Prop:=e= .exit 0∧st=Cj a1
def NX(a1:List aP)(eG:Int):St:=⟨(up (up (up u0 7 (dI eG)) 6 (dI (a1.length:Int))) 5 (dE bN a1)),h0⟩
def s9(a1:List aP)(eG:Int):Option (Int⊕Unit):=((idx a1 eG).bind fun z7=>(bif (decide (32<(z7.Args.length:Int))) then none else (bif (decide (256<(z7.Text.length:Int))) then none else ((f232 z7.Args).bind fun z8=>(some (.inl (IntKind.i64.wrap (eG+1))))))))
theorem Mr(hd:3≤d)(a1:List aP){r:Int⊕Unit}(hQ:FQ (bS (rI a1) (wY a1) r) Q)(eG:Int)(hS:s9 a1 eG=some r)(he:aA [5,6,7] [] [] st=NX a1 eG):ZX d Q acP [] st:=by
 refine aC he ?_
 unfold s9 at hS
 refine ay (bF (zS ?_))
 refine ak hS (fun z7 tW hS=>zO (v:=(.cS (bN.enc z7++(bN.cells (a1.drop ((eG:Int).toNat+1)))))) (aH:= []) (some 9) 1 (.fQ 81 6 (tm 5) (tm 7)) (eE bN (kk:= .i64) (xs:=a1) (j:=eG) (by kernel_rfl) (by kernel_rfl) tW rfl (by intro h;cases h)) (zL 3 4 (zK (zS (zL 3 3 ?_)))))
 refine sB 14 4 (.a_ .gtr (tm 13) (ki 32)) hS (fun hS=>?_) (fun hS=>?_)
 ·cases hS
 ·refine zL 4 8 (sH 19 9 15 false (.a_ .gtr (tm 18) (ki 256)) hS (fun hS=>?_) (fun hS=>?_))
  ·cases hS
  ·refine zL 4 13 (ak hS (fun z8 wC hS=>zG (some 24) 14 21 false (.call 232 [(tm 23),(.func 245)]) (aW (aqK (d-1) (bO hd rfl) z7.Args z8 wC)) (zL 1 15 (zK (zF ?_)))))
   refine aJ (cq (aq (aN (zL 2 2 (zE ?_)))))
   exact au (gC hS hQ)
def NY(a1:List aP)(jt:Int)(iy:Bool):St:=⟨(up (up (up (up u0 8 (dB iy)) 7 (dI jt)) 6 (dI (a1.length:Int))) 5 (dE bN a1)),h0⟩
def mL(a1:List aP)(jt:Int)(iy:Bool):Option (Int⊕Unit):=(bif iy then (s9 a1 jt) else (some (.inr ())))
theorem zQ(hd:3≤d)(a1:List aP){r:Int⊕Unit}(hQ:FQ (bS (rI a1) (wY a1) r) Q)(jt:Int)(iy:Bool)(hS:mL a1 jt iy=some r)(he:aA [5,6,7,8] [] [] st=NY a1 jt iy):ZX d Q acQ [] st:=by
 refine aC he ?_
 unfold mL at hS
 refine ay (sR 8 hS (fun hS=>?_) (fun hS=>?_))
 ·exact zT (aJ (aq (Mr hd a1 hQ jt hS (by kernel_rfl))))
 ·exact zF (aC (J:=Cj a1) (by kernel_rfl) (cP (cG (au (iW hS hQ)))))
def rJ(a1:List aP)(x:Int):Option (Int⊕Unit):=(bif (decide (x<(a1.length:Int))) then (mL a1 x true) else (mL a1 x false))
theorem V0(hd:3≤d)(a1:List aP){r:Int⊕Unit}(hQ:FQ (bS (rI a1) (wY a1) r) Q){x:Int}(hS:rJ a1 x=some r)(he:rI a1 x st):ZX d Q acR [] st:=by
 refine aC he ?_
 unfold rJ at hS
 refine zS ?_
 refine sB 8 1 (.a_ .lss (tm 7) (tm 6)) hS (fun hS=>?_) (fun hS=>?_)
 ·refine zK ?_
  exact zQ hd a1 hQ x true hS (by kernel_rfl)
 ·refine zK ?_
  exact zQ hd a1 hQ x false hS (by kernel_rfl)
def f209(a1:List aP):Option (Unit):=((bR (rJ a1) 0).bind fun z9=>(some ()))
theorem aqL(d:Nat)(hd:3≤d)(a1:List aP)(r:Unit)(hS:f209 a1=some r):cg az bE d 209 [(dE bN a1)] []=some ((dI 0),[]):=by
 refine dN hd (fun Q hQ=>?_) agp
 unfold f209 at hS
 show ZR _ Q acS [] _
 replace hQ:FQ (avg r) Q:=hQ
 refine zS (zL 1 1 (zK (ay (zS (zL 3 3 (zK ?_))))))
 refine bF (ak hS (fun z9 zx hS=>dD (rI a1) (wY a1) (fun x st r Q h0 hS hQ=>V0 hd a1 hQ hS h0) (x:=0) (z:=z9) (by show aA _ _ _ _=_;kernel_rfl) zx ?_))
 intro e bX _ hX
 obtain ⟨rfl,rfl⟩:_∧_:=hX
 refine cQ (aq (zS (zL 1 1 (zK ?_))))
 exact aG (au (aM hS hQ (fR (ahY))))
/- farwriter/page.of -/
def ahZ(p1:Int):St:=⟨(up u0 4 (dI p1)),h0⟩
theorem ah0(p1:Int):bA (ahZ p1) 0 UX.res=some ((dI p1),[]):=by
 kernel_rfl
def avh(r:Int)(e:PX)(st:St):Prop:=bh UX 0 ((dI r),[]) e st
def f298(a1:Int)(a2:UInt8):Option (Int):=(bif (decide (a1=2)) then none else (bif (decide (127<(a2.toNat:Int))) then none else (bif (decide (a1=4)) then none else (bif (decide (a1=3)) then none else (some (a2.toNat:Int))))))
theorem aqM(d:Nat)(hd:1≤d)(a1:Int)(a2:UInt8)(r:Int)(hS:f298 a1 a2=some r):cg az bE d 298 [(dI a1),(.d (.int .u8 (a2.toNat:Int)))] []=some ((dI r),[]):=by
 refine dN hd (fun Q hQ=>?_) agE
 unfold f298 at hS
 show ZR _ Q acT [] _
 replace hQ:FQ (avh r) Q:=hQ
 refine zS (zL 1 1 (zK (zS (zL 3 3 (zK (ay ?_))))))
 refine bF (zS (zL 1 1 ?_))
 refine sB 9 2 (ck 8 2) hS (fun hS=>?_) (fun hS=>?_)
 ·cases hS
 ·refine zL 1 3 (zK (zF (zS (zL 1 1 ?_))))
  refine sB 14 2 (.a_ .gtr (tm 13) (.const (.int .u8 127))) hS (fun hS=>?_) (fun hS=>?_)
  ·cases hS
  ·refine zL 1 3 (zK (zF (zS (zL 1 1 ?_))))
   refine sB 17 2 (ck 16 4) hS (fun hS=>?_) (fun hS=>?_)
   ·cases hS
   ·refine zL 5 7 (zK (zF (zS (zL 1 1 ?_))))
    refine sB 24 2 (ck 23 3) hS (fun hS=>?_) (fun hS=>?_)
    ·cases hS
    ·refine zL 9 11 (zK (zF ?_))
     refine aJ (cq (aq (zS (zL 1 1 ?_))))
     refine zO (v:=(dI (a2.toNat:Int))) (aH:= []) (some 38) 2 (.xY .i64 (tm 37)) (yD (kk:= .u8) (a:=(a2.toNat:Int)) (by kernel_rfl) (AB _)) (zL 1 3 (zK ?_))
     exact aG (au (aM hS hQ (fR (ah0 (a2.toNat:Int)))))
/- farwriter/page.Rune -/
def ah1(p1:Int)(p2:Int):St:=⟨(up (up u0 5 (dI p2)) 4 (dI p1)),h0⟩
theorem Py(p1:Int)(p2:Int):bA (ah1 p1 p2) 0 UY.res=some ((.bZ [(dI p1),(dI p2)]),[]):=by
 kernel_rfl
def avi(r:Int×Int)(e:PX)(st:St):Prop:=bh UY 0 ((.bZ [(dI r.1),(dI r.2)]),[]) e st
def f271(a1:Int)(a2:UInt8):Option (Int×Int):=((f99 a1).bind fun z3=>(bif (!z3) then (some (0,6)) else ((f298 a1 a2).bind fun z4=>(some (z4,0)))))
theorem V1(d:Nat)(hd:2≤d)(a1:Int)(a2:UInt8)(r:Int×Int)(hS:f271 a1 a2=some r):cg az bE d 271 [(dI a1),(.d (.int .u8 (a2.toNat:Int)))] []=some ((.bZ [(dI r.1),(dI r.2)]),[]):=by
 refine dN hd (fun Q hQ=>?_) agy
 unfold f271 at hS
 show ZR _ Q acU [] _
 replace hQ:FQ (avi r) Q:=hQ
 refine zS (zL 2 2 (zK (ay (zS (zL 1 1 ?_)))))
 refine ak hS (fun z3 hz3 hS=>zO (some 7) 2 (c1 99 6) (aW (Fh (d-1) (bO hd rfl) a1 z3 hz3)) (zL 1 3 (zK ?_)))
 refine sR 8 hS (fun hS=>?_) (fun hS=>?_)
 ·refine zT (zS (zL 2 2 (zK ?_)))
  exact aG (bD (au (aM hS hQ (fR (Py 0 6)))))
 ·refine zF (aJ (aq (zS (zL 2 2 ?_))))
  refine ak hS (fun z4 jR hS=>zO (some 11) 3 (.call 298 [(tm 9),(tm 10)]) (aW (aqM (d-1) (bO hd rfl) a1 a2 z4 jR)) (zL 2 5 (zK ?_)))
  exact aG (au (aM hS hQ (fR (Py z4 0))))
/- farwriter/screen.limit -/
def ah2(p1:Int):St:=⟨(up u0 6 (dI p1)),h0⟩
theorem ah3(p1:Int):bA (ah2 p1) 0 UZ.res=some ((dI p1),[]):=by
 kernel_rfl
def avj(r:Int)(e:PX)(st:St):Prop:=bh UZ 0 ((dI r),[]) e st
def f299(a1:Int)(a2:Int)(a3:Int):Option (Int):=(some (if (if a3<a1 then a3 else a1)>a2 then (if a3<a1 then a3 else a1) else a2))
theorem aqN(d:Nat)(hd:1≤d)(a1:Int)(a2:Int)(a3:Int)(r:Int)(hS:f299 a1 a2 a3=some r):cg az bE d 299 [(dI a1),(dI a2),(dI a3)] []=some ((dI r),[]):=by
 refine dN hd (fun Q hQ=>?_) agF
 unfold f299 at hS
 show ZR _ Q acV [] _
 replace hQ:FQ (avj r) Q:=hQ
 refine zS (zL 1 1 (zK (zS (zL 6 6 (zK ?_)))))
 exact aG (au (aM hS hQ (fR (ah3 (if (if a3<a1 then a3 else a1)>a2 then (if a3<a1 then a3 else a1) else a2)))))
/- (*farwriter/screen.terminal).column -/
def Pz(p1:aB):St:=⟨(up u0 2000000 .un),(up (up (up (up h0 3 ⟨0,some (cA p1.af)⟩) 2 ⟨0,some (bU p1.af)⟩) 1 ⟨0,some (bP p1.af)⟩) 0 ⟨0,some (js p1)⟩)⟩
theorem ah4(p1:aB):bA (Pz p1) 4 Pe.res=some ((.bZ []),[(js p1),(bP p1.af),(bU p1.af),(cA p1.af)]):=by
 kernel_rfl
def avk(r:aB)(e:PX)(st:St):Prop:=bh Pe 4 ((.bZ []),[(js r),(bP r.af),(bU r.af),(cA r.af),.box []]) e st
def f272(a1:Int)(a2:aB):Option (aB):=((f299 a1 0 (IntKind.i64.wrap (a2.af.aT.bV-1))).bind fun z2=>(some (aB.mk ({a2.af with dS:=z2,eL:=false}) a2.sent)))
theorem V2(d:Nat)(hd:2≤d)(a1:Int)(a2:aB)(r:aB)(hS:f272 a1 a2=some r):cg az bE d 272 [(pt 0),(dI a1)] [(js a2),(bP a2.af),(bU a2.af),(cA a2.af)]=some ((.bZ []),[(js r),(bP r.af),(bU r.af),(cA r.af),.box []]):=by
 refine dN hd (fun Q hQ=>?_) agz
 unfold f272 at hS
 show ZR _ Q acW [] _
 replace hQ:FQ (avk r) Q:=hQ
 refine zS (zL 5 5 (zK (aN (zL 9 9 ?_))))
 refine ak hS (fun z2 hz2 hS=>zO (some 17) 10 (.call 299 [(tm 9),(ki 0),(tm 16)]) (aW (aqN (d-1) (bO hd rfl) a1 0 (IntKind.i64.wrap (a2.af.aT.bV-1)) z2 hz2)) (zL 4 14 (zE ?_)))
 exact au (aM hS hQ (I4 (by kernel_rfl) (by kernel_rfl:dZ Pe.fin _=Pz (aB.mk ({a2.af with dS:=z2,eL:=false}) a2.sent)) (by kernel_rfl) (ah4 (aB.mk ({a2.af with dS:=z2,eL:=false}) a2.sent))))
/- (*farwriter/screen.terminal).is -/
def ah5(p2:Bool):St:=⟨(up u0 4 (dB p2)),h0⟩
theorem PA(p2:Bool):bA (ah5 p2) 0 U0.res=some ((dB p2),[]):=by
 kernel_rfl
def avl(r:Bool)(e:PX)(st:St):Prop:=bh U0 0 ((dB r),[]) e st
def f274(a1:aB)(a2:List PD)(a3:Int):Option (Bool):=(bif (!decide ((gG .and .i64 a1.af.gD a3)=0)) then (some true) else (some false))
theorem FI(d:Nat)(hd:1≤d)(a1:aB)(a2:List PD)(a3:Int)(r:Bool)(hS:f274 a1 a2 a3=some r):cg az bE d 274 [(.cS (BO.enc a1++a2)),(dI a3)] []=some ((dB r),[]):=by
 refine dN hd (fun Q hQ=>?_) agB
 unfold f274 at hS
 show ZR _ Q acX [] _
 replace hQ:FQ (avl r) Q:=hQ
 refine zS (zL 1 1 (zK (zS (zL 7 7 ?_))))
 refine sB 12 8 (.a_ .neq (tm 11) (ki 0)) hS (fun hS=>?_) (fun hS=>?_)
 ·refine zL 1 9 (zK ?_)
  exact aG (au (aM hS hQ (fR (PA true))))
 ·refine zL 1 9 (zK ?_)
  exact aG (au (aM hS hQ (fR (PA false))))
/- farwriter/grid.Row -/
def ah6(p1:List aa):St:=⟨(up u0 4 (.r (.aI 72 0 0 p1.length))),(up h0 72 ⟨0,some (.own 100 4 (ag.cells p1))⟩)⟩
theorem ah7(p1:List aa):bA (ah6 p1) 0 U1.res=some ((.r (.own 0 100 4 p1.length (ag.cells p1))),[]):=by
 exact fK (ids:= []) (ids':= [72]) (l:= [(.r (.aI 72 0 0 p1.length))]) (by kernel_rfl) (by kernel_rfl) (fU ag (e:=100) (k:=4) (xs:=p1) (by kernel_rfl) rfl rfl rfl rfl)
def avm(r:(List aa))(e:PX)(st:St):Prop:=bh U1 0 ((.r (.own 0 100 4 r.length (ag.cells r))),[]) e st
def f300(a1:aV)(a2:Int):Option ((List aa)):=((f38 a1 a2).bind fun z3=>((f91 z3).bind fun z4=>(some z4)))
theorem aqO(d:Nat)(hd:2≤d)(a1:aV)(a2:Int)(r:(List aa))(hS:f300 a1 a2=some r):cg az bE d 300 [(.agg (iZ a1)),(dI a2)] []=some ((.r (.own 0 100 4 r.length (ag.cells r))),[]):=by
 refine dN hd (fun Q hQ=>?_) agG
 unfold f300 at hS
 show ZR _ Q acY [] _
 replace hQ:FQ (avm r) Q:=hQ
 refine zS (zL 2 2 (zK (zS (zL 2 2 ?_))))
 refine ak hS (fun z3 hz3 hS=>zO (some 7) 3 (.er 38 [(tm 5),(tm 6)]) (pH [] [] (ad5 (d-1) (bO hd rfl) a1 a2 z3 hz3) nr) (ak hS (fun z4 jR hS=>zO (some 8) 4 (c1 91 7) (aW (oz (d-1) (bO hd rfl) z3 z4 jR)) (zL 1 5 (zK ?_)))))
 exact aG (au (aM hS hQ (fR (ah7 z4))))
/- (*farwriter/screen.terminal).clear -/
def ah8(p1:bq):St:=⟨(up u0 2 (pt 24)),(up h0 24 (uO p1))⟩
theorem ah9(p1:bq):bA (ah8 p1) 0 U2.res=some ((lT p1),[]):=by
 kernel_rfl
def avn(r:bq)(e:PX)(st:St):Prop:=bh U2 0 ((lT r),[]) e st
def f276(a1:aB)(a2:List PD):Option (bq):=(some (bq.mk 0 0 a1.af.bM.b9))
theorem V3(d:Nat)(hd:1≤d)(a1:aB)(a2:List PD)(r:bq)(hS:f276 a1 a2=some r):cg az bE d 276 [(.cS (BO.enc a1++a2))] []=some ((lT r),[]):=by
 refine dN hd (fun Q hQ=>?_) agC
 unfold f276 at hS
 show ZR _ Q acZ [] _
 replace hQ:FQ (avn r) Q:=hQ
 refine zS (zL 1 1 (zK (zS (zL 8 8 (zK ?_)))))
 exact aG (au (aM hS hQ (fR (ah9 (bq.mk 0 0 a1.af.bM.b9)))))
/- farwriter/grid.row -/
def Ms(p1:List aa)(p2:Nat)(p3:Nat):St:=⟨(up (up u0 2000000 .un) 4 (.r (.aI 0 0 p2 p3))),(up h0 0 ⟨0,some (.own 100 4 (ag.cells p1))⟩)⟩
theorem ZI(p1:List aa)(p2:Nat)(p3:Nat):bA (Ms p1 p2 p3) 1 Q5.res=some ((.r (.aI 0 0 p2 p3)),[(.own 100 4 (ag.cells p1))]):=by
 kernel_rfl
def aqP(r:(List aa)×Nat×Nat)(e:PX)(st:St):Prop:=bh Q5 1 ((.r (.aI 0 0 r.2.1 r.2.2)),[(.own 100 4 (ag.cells r.1)),.box []]) e st
def De(a1:Int)(a2:Int)(a3:Int)(a4:List aa):Option ((List aa)×Nat×Nat):=((gz (decide (0≤(IntKind.i64.wrap (a3*a1)))&&decide ((IntKind.i64.wrap (a3*a1))≤(IntKind.i64.wrap ((IntKind.i64.wrap (a3+1))*a1)))&&decide ((IntKind.i64.wrap ((IntKind.i64.wrap (a3+1))*a1))≤(a4.length:Int)))).bind fun z2=>(some (a4,(((IntKind.i64.wrap (a3*a1)):Int).toNat),(((IntKind.i64.wrap ((IntKind.i64.wrap (a3+1))*a1)):Int).toNat-((IntKind.i64.wrap (a3*a1)):Int).toNat))))
theorem Hs(d:Nat)(hd:1≤d)(a1:Int)(a2:Int)(a3:Int)(a4:List aa)(r:(List aa)×Nat×Nat)(hS:De a1 a2 a3 a4=some r):cg az bE d 38 [(.agg ((dI a1)::((dI a2)::((.r (.aI 0 0 0 a4.length)):: [])))),(dI a3)] [(.own 100 4 (ag.cells a4))]=some ((.r (.aI 0 0 r.2.1 r.2.2)),[(.own 100 4 (ag.cells r.1)),.box []]):=by
 refine dN hd (fun Q hQ=>?_) Ve
 unfold De at hS
 show ZR _ Q Yv [] _
 replace hQ:FQ (aqP r) Q:=hQ
 refine zS (zL 2 2 (zK (zS (zL 11 11 ?_))))
 refine ak hS (fun z2 hz2 hS=>zO (v:=(.r (.aI 0 0 (((IntKind.i64.wrap (a3*a1)):Int).toNat) (((IntKind.i64.wrap ((IntKind.i64.wrap (a3+1))*a1)):Int).toNat-((IntKind.i64.wrap (a3*a1)):Int).toNat)))) (aH:= []) (some 16) 12 (.tD 100 4 (tm 6) (.some (tm 10)) (.some (tm 15))) (DY (b:=0) (g:=0) (e:=100) (a:=(IntKind.i64.wrap (a3*a1))) (c:=(IntKind.i64.wrap ((IntKind.i64.wrap (a3+1))*a1))) (l:=0) (n:=a4.length) (l':=(((IntKind.i64.wrap (a3*a1)):Int).toNat)) (n':=(((IntKind.i64.wrap ((IntKind.i64.wrap (a3+1))*a1)):Int).toNat-((IntKind.i64.wrap (a3*a1)):Int).toNat)) (cs:=ag.cells a4) (by kernel_rfl) (by kernel_rfl) (jQ _ (kk:= .i64) (j:=(IntKind.i64.wrap (a3*a1))) (by kernel_rfl)) (jQ _ (kk:= .i64) (j:=(IntKind.i64.wrap ((IntKind.i64.wrap (a3+1))*a1))) (by kernel_rfl)) hz2 (by simp) rfl) (zL 1 13 (zK ?_)))
 exact aG (au (aM hS hQ (XG (by kernel_rfl) (by kernel_rfl:dZ Q5.fin _=Ms a4 (((IntKind.i64.wrap (a3*a1)):Int).toNat) (((IntKind.i64.wrap ((IntKind.i64.wrap (a3+1))*a1)):Int).toNat-((IntKind.i64.wrap (a3*a1)):Int).toNat)) (by kernel_rfl) (ZI a4 (((IntKind.i64.wrap (a3*a1)):Int).toNat) (((IntKind.i64.wrap ((IntKind.i64.wrap (a3+1))*a1)):Int).toNat-((IntKind.i64.wrap (a3*a1)):Int).toNat)))))
/- farwriter/grid.ScrollIn$1 -/
def aia(p1:List aa):St:=⟨(up u0 2 (.r (.aI 56 0 0 p1.length))),(up h0 56 ⟨0,some (.own 100 4 (ag.cells p1))⟩)⟩
theorem aib(p1:List aa):bA (aia p1) 0 U3.res=some ((.r (.own 0 100 4 p1.length (ag.cells p1))),[]):=by
 exact fK (ids:= []) (ids':= [56]) (l:= [(.r (.aI 56 0 0 p1.length))]) (by kernel_rfl) (by kernel_rfl) (fU ag (e:=100) (k:=4) (xs:=p1) (by kernel_rfl) rfl rfl rfl rfl)
def avo(r:(List aa))(e:PX)(st:St):Prop:=bh U3 0 ((.r (.own 0 100 4 r.length (ag.cells r))),[]) e st
def f315(a1:Int)(a2:Int)(a3:bq)(a4:List PD):Option ((List aa)):=((f90 a1 1 a3).bind fun z2=>(some z2.2.2))
theorem aqQ(d:Nat)(hd:5≤d)(a1:Int)(a2:Int)(a3:bq)(a4:List PD)(r:(List aa))(hS:f315 a1 a2 a3 a4=some r):cg az bE d 315 [(.cS [.int .i64 a1,.int .i64 a2,.un]),(.cS (QG.enc a3++a4))] []=some ((.r (.own 0 100 4 r.length (ag.cells r))),[]):=by
 refine dN hd (fun Q hQ=>?_) agJ
 unfold f315 at hS
 show ZR _ Q ac0 [] _
 replace hQ:FQ (avo r) Q:=hQ
 refine zS (zL 1 1 (zK (zS (zL 3 3 ?_))))
 refine ak hS (fun z2 hz2 hS=>zO (some 6) 4 (.call 90 [(tm 4),(ki 1),(tm 5)]) (aW (adX (d-1) (bO hd rfl) a1 1 a3 z2 hz2)) (zL 2 6 (zK ?_)))
 exact aG (au (aM hS hQ (fR (aib z2.2.2))))
/- farwriter/grid.move[[]farwriter/api.Cell] -/
def PB(Bk:Int)(FJ:Int)(pJ:List aa)(lG:bq)(mS:List (List aa))(fL:List (List aa)):St:=⟨(up (up u0 2000000 .un) 6 (.r (.aI 64 0 0 fL.length))),(up (up (up (up (up h0 64 ⟨0,some (.own 32 1 ((d_ ag).cells fL))⟩) 0 ⟨0,some (.own 32 1 ((d_ ag).cells mS))⟩) 2 (uO lG)) 3 ⟨0,some (.own 100 4 (ag.cells pJ))⟩) 1 ⟨0,some (.box ((dI Bk)::((dI FJ)::((.r (.aI 3 0 0 pJ.length)):: []))))⟩)⟩
theorem aic(Bk:Int)(FJ:Int)(pJ:List aa)(lG:bq)(mS:List (List aa))(fL:List (List aa)):bA (PB Bk FJ pJ lG mS fL) 4 Pf.res=some ((.r (.own 0 32 1 fL.length ((d_ ag).cells fL))),[(.own 32 1 ((d_ ag).cells mS)),(.box ((dI Bk)::((dI FJ)::((.r (.aI 3 0 0 pJ.length)):: [])))),(.box ((dI lG.Flags)::((dI lG.cz)::((dI lG.b9):: [])))),(.own 100 4 (ag.cells pJ))]):=by
 exact fK (ids:= []) (ids':= [64]) (l:= [(.r (.aI 64 0 0 fL.length))]) (by kernel_rfl) (by kernel_rfl) (fU (d_ ag) (e:=32) (k:=1) (xs:=fL) (by kernel_rfl) rfl rfl rfl rfl)
def avp(r:Int×Int×(List aa)×bq×(List (List aa))×(List (List aa)))(e:PX)(st:St):Prop:=bh Pf 4 ((.r (.own 0 32 1 r.2.2.2.2.2.length ((d_ ag).cells r.2.2.2.2.2))),[(.own 32 1 ((d_ ag).cells r.2.2.2.2.1)),(.box ((dI r.1)::((dI r.2.1)::((.r (.aI 3 0 0 r.2.2.1.length)):: [])))),(.box ((dI r.2.2.2.1.Flags)::((dI r.2.2.2.1.cz)::((dI r.2.2.2.1.b9):: [])))),(.own 100 4 (ag.cells r.2.2.1)),.box []]) e st
def ZJ(a1:Int)(a2:List (List aa))(a3:Int)(a4:Int)(a5:bq)(a6:List aa)(x:(List (List aa))×Int):St:=⟨(up (up (up (up (up (up u0 12 (dI x.2)) 11 (dI (a2.length:Int))) 7 (.r (.aI 64 0 0 x.1.length))) 2 (.fn 315 [(pt 1),(pt 2)])) 1 (dI a1)) 0 (.r (.aI 0 0 0 a2.length))),(up (up (up (up (up h0 64 ⟨0,some (.own 32 1 ((d_ ag).cells x.1))⟩) 0 ⟨0,some (.own 32 1 ((d_ ag).cells a2))⟩) 2 (uO a5)) 3 ⟨0,some (.own 100 4 (ag.cells a6))⟩) 1 ⟨0,some (.box ((dI a3)::((dI a4)::((.r (.aI 3 0 0 a6.length)):: []))))⟩)⟩
def oq(a1:Int)(a2:List (List aa))(a3:Int)(a4:Int)(a5:bq)(a6:List aa)(x:(List (List aa))×Int)(st:St):Prop:=aA [0,1,2,7,11,12] [(1,.id 1),(3,.id 3),(2,.id 2),(0,.id 0),(64,.id 64)] [] st=ZJ a1 a2 a3 a4 a5 a6 x
def Ck(a1:Int)(a2:List (List aa))(a3:Int)(a4:Int)(a5:bq)(a6:List aa)(VW:List (List aa)):St:=⟨(up u0 7 (.r (.aI 64 0 0 VW.length))),(up (up (up (up (up h0 64 ⟨0,some (.own 32 1 ((d_ ag).cells VW))⟩) 0 ⟨0,some (.own 32 1 ((d_ ag).cells a2))⟩) 2 (uO a5)) 3 ⟨0,some (.own 100 4 (ag.cells a6))⟩) 1 ⟨0,some (.box ((dI a3)::((dI a4)::((.r (.aI 3 0 0 a6.length)):: []))))⟩)⟩
def rK(a1:Int)(a2:List (List aa))(a3:Int)(a4:Int)(a5:bq)(a6:List aa)(z:((List (List aa))))(e:PX)(st:St):Prop:=e= .exit 0∧st=Ck a1 a2 a3 a4 a5 a6 z
def NZ(a1:Int)(a2:List (List aa))(a3:Int)(a4:Int)(a5:bq)(a6:List aa)(mz:List (List aa))(wZ:Int):St:=⟨(up (up (up (up (up (up u0 12 (dI wZ)) 11 (dI (a2.length:Int))) 7 (.r (.aI 64 0 0 mz.length))) 2 (.fn 315 [(pt 1),(pt 2)])) 1 (dI a1)) 0 (.r (.aI 0 0 0 a2.length))),(up (up (up (up (up h0 64 ⟨0,some (.own 32 1 ((d_ ag).cells mz))⟩) 0 ⟨0,some (.own 32 1 ((d_ ag).cells a2))⟩) 2 (uO a5)) 3 ⟨0,some (.own 100 4 (ag.cells a6))⟩) 1 ⟨0,some (.box ((dI a3)::((dI a4)::((.r (.aI 3 0 0 a6.length)):: []))))⟩)⟩
def pq(a1:Int)(a2:List (List aa))(a3:Int)(a4:Int)(a5:bq)(a6:List aa)(mz:List (List aa))(wZ:Int):Option (((List (List aa))×Int)⊕(((List (List aa))))):=((f315 a3 a4 a5 []).bind fun fV=>((fT 24 mz ([fV]:List (List aa))).bind fun f_=>(some (.inl (f_,(IntKind.i64.wrap (wZ+1)))))))
theorem zR(hd:6≤d)(a1:Int)(a2:List (List aa))(a3:Int)(a4:Int)(a5:bq)(a6:List aa){r:((List (List aa))×Int)⊕(((List (List aa))))}(hQ:FQ (bS (oq a1 a2 a3 a4 a5 a6) (rK a1 a2 a3 a4 a5 a6) r) Q)(mz:List (List aa))(wZ:Int)(hS:pq a1 a2 a3 a4 a5 a6 mz wZ=some r)(he:aA [0,1,2,7,11,12] [(1,.id 1),(3,.id 3),(2,.id 2),(0,.id 0),(64,.id 64)] [] st=NZ a1 a2 a3 a4 a5 a6 mz wZ):ZX d Q ac1 [.blk 1,.seq ac2] st:=by
 refine aC he ?_
 unfold pq at hS
 refine aN (zL 2 2 ?_)
 refine ak hS (fun fV qL hS=>zO (v:=(.r (.aI 288 1 0 fV.length))) (aH:= [(288,⟨1,some (.own 100 4 (ag.cells fV))⟩)]) (some 35) 3 (.nQ (tm 34) []) (AA (f:=315) (cs:= [(pt 1),(pt 2)]) (by kernel_rfl) (args:= [(pt 1),(pt 2)]) (l:= [(.cS [.int .i64 a3,.int .i64 a4,.un]),(.cS (QG.enc a5++ []))]) (r:=(.r (.own 0 100 4 fV.length (ag.cells fV)))) (by kernel_rfl) (by kernel_rfl) (aqQ (d-1) (bO hd rfl) a3 a4 a5 [] fV qL) (by simp only [qi ag (fun _=>rfl),qj,ql,uy,uz,qm,nY,qo,uA,uB,uC,Bool.and_true,Bool.or_true,Bool.and_self]) (by kernel_rfl) (by kernel_rfl)) (zO (v:=(.r (.aI 296 1 0 (([fV]:List (List aa)).length)))) (aH:= [(288,⟨2,none⟩),(296,⟨1,some (.own 32 1 ((d_ ag).cells ([fV])))⟩)]) (some 36) 4 (.tC 32 1 1 [(1,(.slice .none 0 0))] [(0,(1,(tm 35)))]) ((by kernel_rfl:aD _ _ 36 (cK _) (.tC 32 1 1 [(1,(.slice .none 0 0))] [(0,(1,(.tmp 35)))])=some ((.r (.aI 296 1 0 (([fV]:List (List aa)).length))),[(288,⟨2,none⟩),(296,⟨1,some (.own 32 1 [.sl fV.length (((ag.cells fV).drop (0*ag.k)).take (fV.length*ag.k))])⟩)])).trans (by simp only [dJ.II];rfl)) (ak hS (fun f_ nM hS=>zO (v:=(.r (.aI 64 1 0 f_.length))) (aH:= [(64,⟨1,some (.own 32 1 ((d_ ag).cells f_))⟩)]) (some 37) 5 (.app 32 1 24 (tm 33) (tm 36)) (fJ (d_ ag) (b:=64) (g:=0) (n:=mz.length) (xs:=mz) (ys:= [fV]) ((congrArg (gm _) (by kernel_rfl:cK _ (.tmp 36)=(.r (.aI 296 1 0 (([fV]:List (List aa)).length))))).trans (en (d_ ag) (e:=32) (k:=1) (xs:= [fV]) (by kernel_rfl) rfl rfl)) rfl (by kernel_rfl) rfl (by kernel_rfl) rfl nM) (zL 1 6 (zE ?_))))))
 refine cq (aq (aN (zL 2 2 (zE ?_))))
 exact au (gC hS hQ)
def N0(a1:Int)(a2:List (List aa))(a3:Int)(a4:Int)(a5:bq)(a6:List aa)(om:List (List aa))(FK:Int):St:=⟨(up (up (up (up (up (up u0 12 (dI FK)) 11 (dI (a2.length:Int))) 7 (.r (.aI 64 0 0 om.length))) 2 (.fn 315 [(pt 1),(pt 2)])) 1 (dI a1)) 0 (.r (.aI 0 0 0 a2.length))),(up (up (up (up (up h0 64 ⟨0,some (.own 32 1 ((d_ ag).cells om))⟩) 0 ⟨0,some (.own 32 1 ((d_ ag).cells a2))⟩) 2 (uO a5)) 3 ⟨0,some (.own 100 4 (ag.cells a6))⟩) 1 ⟨0,some (.box ((dI a3)::((dI a4)::((.r (.aI 3 0 0 a6.length)):: []))))⟩)⟩
def th(a1:Int)(a2:List (List aa))(a3:Int)(a4:Int)(a5:bq)(a6:List aa)(om:List (List aa))(FK:Int):Option (((List (List aa))×Int)⊕(((List (List aa))))):=(bif (decide (0≤(IntKind.i64.wrap (FK-a1)))) then (bif (decide ((IntKind.i64.wrap (FK-a1))<(a2.length:Int))) then ((iJ (IntKind.i64.wrap (FK-a1)) a2.length).bind fun m18=>((a2[m18]?).bind fun iw=>((fT 24 om ([iw]:List (List aa))).bind fun z20=>(some (.inl (z20,(IntKind.i64.wrap (FK+1)))))))) else (pq a1 a2 a3 a4 a5 a6 om FK)) else (pq a1 a2 a3 a4 a5 a6 om FK))
theorem Mt(hd:6≤d)(a1:Int)(a2:List (List aa))(a3:Int)(a4:Int)(a5:bq)(a6:List aa){r:((List (List aa))×Int)⊕(((List (List aa))))}(hQ:FQ (bS (oq a1 a2 a3 a4 a5 a6) (rK a1 a2 a3 a4 a5 a6) r) Q)(om:List (List aa))(FK:Int)(hS:th a1 a2 a3 a4 a5 a6 om FK=some r)(he:aA [0,1,2,7,11,12] [(1,.id 1),(3,.id 3),(2,.id 2),(0,.id 0),(64,.id 64)] [] st=N0 a1 a2 a3 a4 a5 a6 om FK):ZX d Q ac3 [] st:=by
 refine aC he ?_
 unfold th at hS
 refine ay (bF (zS (zL 2 2 (zK (zS (zL 4 4 (zK (zS (zL 1 1 ?_)))))))))
 refine sB 19 2 (.a_ .geq (tm 18) (ki 0)) hS (fun hS=>?_) (fun hS=>?_)
 ·refine zL 4 6 (sH 24 7 20 true (.a_ .lss (tm 21) (tm 23)) hS (fun hS=>?_) (fun hS=>?_))
  ·refine zL 1 8 (zK (zT (aN (zL 3 3 ?_))))
   refine ak hS (fun m18 aBi hS=>zO (v:=(.r (.ptr 0 0 ((0+m18)*1)))) (aH:= []) (some 29) 4 (.fQ 32 1 (tm 27) (tm 28)) (iK (kk:= .i64) (b:=0) (g:=0) (l:=0) (n:=a2.length) (j:=(IntKind.i64.wrap (FK-a1))) (cs:=(d_ ag).cells a2) (by kernel_rfl) (by kernel_rfl) (by kernel_rfl) aBi) (ak hS (fun iw oQ hS=>zO (v:=(dE ag iw)) (aH:= []) (some 30) 5 (lf 1 29) (jl (d_ ag) (b:=0) (g:=0) (o:=(0+m18)*1) (e:=32) (k:=1) (m:=m18) (fo:=0) (xs:=a2) (by kernel_rfl) (by kernel_rfl) (by rw [Nat.zero_add];rfl) oQ (by kernel_rfl) (by kernel_rfl) (by kernel_rfl)) (zL 1 6 (ak hS (fun z20 oO hS=>zO (v:=(.r (.aI 64 1 0 z20.length))) (aH:= [(64,⟨1,some (.own 32 1 ((d_ ag).cells z20))⟩)]) (some 32) 7 (.app 32 1 24 (tm 26) (tm 31)) (fJ (d_ ag) (b:=64) (g:=0) (n:=om.length) (xs:=om) (ys:= [iw]) ((congrArg (gm _) (by kernel_rfl:cK _ (.tmp 31)=(.r (.aI 256 1 0 (([iw]:List (List aa)).length))))).trans (en (d_ ag) (e:=32) (k:=1) (xs:= [iw]) (by kernel_rfl) rfl rfl)) rfl (by kernel_rfl) rfl (by kernel_rfl) rfl oO) (zL 1 8 (zE ?_))))))))
   refine cq (aq (aN (zL 2 2 (zE ?_))))
   exact au (gC hS hQ)
  ·refine zL 1 8 (zK (zF ?_))
   exact zR hd a1 a2 a3 a4 a5 a6 hQ om FK hS (by kernel_rfl)
 ·refine zL 6 8 (zK (zF ?_))
  exact zR hd a1 a2 a3 a4 a5 a6 hQ om FK hS (by kernel_rfl)
def N1(a1:Int)(a2:List (List aa))(a3:Int)(a4:Int)(a5:bq)(a6:List aa)(fy:List (List aa))(pK:Int)(tP:Bool):St:=⟨(up (up (up (up (up (up (up u0 13 (dB tP)) 12 (dI pK)) 11 (dI (a2.length:Int))) 7 (.r (.aI 64 0 0 fy.length))) 2 (.fn 315 [(pt 1),(pt 2)])) 1 (dI a1)) 0 (.r (.aI 0 0 0 a2.length))),(up (up (up (up (up h0 64 ⟨0,some (.own 32 1 ((d_ ag).cells fy))⟩) 0 ⟨0,some (.own 32 1 ((d_ ag).cells a2))⟩) 2 (uO a5)) 3 ⟨0,some (.own 100 4 (ag.cells a6))⟩) 1 ⟨0,some (.box ((dI a3)::((dI a4)::((.r (.aI 3 0 0 a6.length)):: []))))⟩)⟩
def mM(a1:Int)(a2:List (List aa))(a3:Int)(a4:Int)(a5:bq)(a6:List aa)(fy:List (List aa))(pK:Int)(tP:Bool):Option (((List (List aa))×Int)⊕(((List (List aa))))):=(bif tP then (th a1 a2 a3 a4 a5 a6 fy pK) else (some (.inr fy)))
theorem zU(hd:6≤d)(a1:Int)(a2:List (List aa))(a3:Int)(a4:Int)(a5:bq)(a6:List aa){r:((List (List aa))×Int)⊕(((List (List aa))))}(hQ:FQ (bS (oq a1 a2 a3 a4 a5 a6) (rK a1 a2 a3 a4 a5 a6) r) Q)(fy:List (List aa))(pK:Int)(tP:Bool)(hS:mM a1 a2 a3 a4 a5 a6 fy pK tP=some r)(he:aA [0,1,2,7,11,12,13] [(1,.id 1),(3,.id 3),(2,.id 2),(0,.id 0),(64,.id 64)] [] st=N1 a1 a2 a3 a4 a5 a6 fy pK tP):ZX d Q ac4 [] st:=by
 refine aC he ?_
 unfold mM at hS
 refine ay (sR 13 hS (fun hS=>?_) (fun hS=>?_))
 ·exact zT (aJ (aq (Mt hd a1 a2 a3 a4 a5 a6 hQ fy pK hS (by kernel_rfl))))
 ·exact zF (aC (J:=Ck a1 a2 a3 a4 a5 a6 fy) (by kernel_rfl) (cP (cG (au (iW hS hQ)))))
def rL(a1:Int)(a2:List (List aa))(a3:Int)(a4:Int)(a5:bq)(a6:List aa)(x:(List (List aa))×Int):Option (((List (List aa))×Int)⊕(((List (List aa))))):=(bif (decide (x.2<(a2.length:Int))) then (mM a1 a2 a3 a4 a5 a6 x.1 x.2 true) else (mM a1 a2 a3 a4 a5 a6 x.1 x.2 false))
theorem V4(hd:6≤d)(a1:Int)(a2:List (List aa))(a3:Int)(a4:Int)(a5:bq)(a6:List aa){r:((List (List aa))×Int)⊕(((List (List aa))))}(hQ:FQ (bS (oq a1 a2 a3 a4 a5 a6) (rK a1 a2 a3 a4 a5 a6) r) Q){x:(List (List aa))×Int}(hS:rL a1 a2 a3 a4 a5 a6 x=some r)(he:oq a1 a2 a3 a4 a5 a6 x st):ZX d Q ac5 [] st:=by
 refine aC he ?_
 unfold rL at hS
 refine zS ?_
 refine sB 13 1 (.a_ .lss (tm 12) (tm 11)) hS (fun hS=>?_) (fun hS=>?_)
 ·refine zK ?_
  exact zU hd a1 a2 a3 a4 a5 a6 hQ x.1 x.2 true hS (by kernel_rfl)
 ·refine zK ?_
  exact zU hd a1 a2 a3 a4 a5 a6 hQ x.1 x.2 false hS (by kernel_rfl)
def f314(a1:Int)(a2:List (List aa))(a3:Int)(a4:Int)(a5:bq)(a6:List aa):Option (Int×Int×(List aa)×bq×(List (List aa))×(List (List aa))):=((bR (rL a1 a2 a3 a4 a5 a6) ([],0)).bind fun z21=>(some (a3,a4,a6,a5,a2,z21)))
theorem aqR(d:Nat)(hd:6≤d)(a1:Int)(a2:List (List aa))(a3:Int)(a4:Int)(a5:bq)(a6:List aa)(r:Int×Int×(List aa)×bq×(List (List aa))×(List (List aa)))(hS:f314 a1 a2 a3 a4 a5 a6=some r):cg az bE d 314 [(.r (.aI 0 0 0 a2.length)),(dI a1),(.fn 315 [(pt 1),(pt 2)])] [(.own 32 1 ((d_ ag).cells a2)),(.box ((dI a3)::((dI a4)::((.r (.aI 3 0 0 a6.length)):: [])))),(.box ((dI a5.Flags)::((dI a5.cz)::((dI a5.b9):: [])))),(.own 100 4 (ag.cells a6))]=some ((.r (.own 0 32 1 r.2.2.2.2.2.length ((d_ ag).cells r.2.2.2.2.2))),[(.own 32 1 ((d_ ag).cells r.2.2.2.2.1)),(.box ((dI r.1)::((dI r.2.1)::((.r (.aI 3 0 0 r.2.2.1.length)):: [])))),(.box ((dI r.2.2.2.1.Flags)::((dI r.2.2.2.1.cz)::((dI r.2.2.2.1.b9):: [])))),(.own 100 4 (ag.cells r.2.2.1)),.box []]):=by
 refine dN hd (fun Q hQ=>?_) agI
 unfold f314 at hS
 show ZR _ Q ac6 [] _
 replace hQ:FQ (avp r) Q:=hQ
 refine zS (zL 1 1 (zK (zS (zL 1 1 (zK (ay (zS (zL 3 3 (zK ?_)))))))))
 refine bF (ak hS (fun z21 qY hS=>dD (oq a1 a2 a3 a4 a5 a6) (rK a1 a2 a3 a4 a5 a6) (fun x st r Q h0 hS hQ=>V4 hd a1 a2 a3 a4 a5 a6 hQ hS h0) (x:=([],0)) (z:=z21) (by show aA _ _ _ _=_;kernel_rfl) qY ?_))
 intro e bX _ hX
 obtain ⟨rfl,rfl⟩:_∧_:=hX
 refine cQ (aq (zS (zL 2 2 (zK ?_))))
 exact aG (au (aM hS hQ (XG (by kernel_rfl) (by kernel_rfl:dZ Pf.fin _=PB a3 a4 a6 a5 a2 z21) (by kernel_rfl) (aic a3 a4 a6 a5 a2 z21))))
/- farwriter/grid.ScrollIn -/
def PC(Df:List aa):St:=⟨(up u0 2000000 .un),(up h0 0 ⟨0,some (.own 100 4 (ag.cells Df))⟩)⟩
theorem aid(Df:List aa):bA (PC Df) 1 Pg.res=some ((.bZ []),[(.own 100 4 (ag.cells Df))]):=by
 kernel_rfl
def aed(r:(List aa))(e:PX)(st:St):Prop:=bh Pg 1 ((.bZ []),[(.own 100 4 (ag.cells r)),.box []]) e st
def ZM(a1:Int)(a2:Int)(a3:Int)(a4:Int)(a5:Int)(a6:bq)(a7:List aa)(x:(List aa)×Int×Int×(List (List aa))×Int×Int):St:=⟨(up (up (up (up (up u0 34 (dI x.2.2.2.2.2)) 33 (dI x.2.2.2.2.1)) 32 (.r (.aI 256 0 0 x.2.2.2.1.length))) 5 (pt 48)) 1 (dI a3)),(up (up (up h0 256 ⟨0,some (.own 32 1 ((d_ ag).cells x.2.2.2.1))⟩) 48 ⟨0,some (.box ((dI x.2.1)::((dI x.2.2.1)::((.r (.aI 0 0 0 x.1.length)):: []))))⟩) 0 ⟨0,some (.own 100 4 (ag.cells x.1))⟩)⟩
def rM(a1:Int)(a2:Int)(a3:Int)(a4:Int)(a5:Int)(a6:bq)(a7:List aa)(x:(List aa)×Int×Int×(List (List aa))×Int×Int)(st:St):Prop:=aA [1,5,32,33,34] [(0,.id 0),(48,.id 48),(256,.id 256)] [] st=ZM a1 a2 a3 a4 a5 a6 a7 x
def Cl(a1:Int)(a2:Int)(a3:Int)(a4:Int)(a5:Int)(a6:bq)(a7:List aa)(tY:List aa):St:=⟨u0,(up h0 0 ⟨0,some (.own 100 4 (ag.cells tY))⟩)⟩
def w9(a1:Int)(a2:Int)(a3:Int)(a4:Int)(a5:Int)(a6:bq)(a7:List aa)(z:((List aa)))(e:PX)(st:St):Prop:=e= .exit 2∧st=Cl a1 a2 a3 a4 a5 a6 a7 z
def tZ(a1:Int)(a2:Int)(a3:Int)(a4:Int)(a5:Int)(a6:bq)(a7:List aa)(lX:List aa)(o9:Int)(nD:Int)(mN:List (List aa))(tj:Int)(jY:Int):St:=⟨(up (up (up (up (up u0 34 (dI jY)) 33 (dI tj)) 32 (.r (.aI 256 0 0 mN.length))) 5 (pt 48)) 1 (dI a3)),(up (up (up h0 256 ⟨0,some (.own 32 1 ((d_ ag).cells mN))⟩) 48 ⟨0,some (.box ((dI o9)::((dI nD)::((.r (.aI 0 0 0 lX.length)):: []))))⟩) 0 ⟨0,some (.own 100 4 (ag.cells lX))⟩)⟩
def tq(a1:Int)(a2:Int)(a3:Int)(a4:Int)(a5:Int)(a6:bq)(a7:List aa)(lX:List aa)(o9:Int)(nD:Int)(mN:List (List aa))(tj:Int)(jY:Int):Option (((List aa)×Int×Int×(List (List aa))×Int×Int)⊕(((List aa)))):=((iJ jY mN.length).bind fun m58=>((mN[m58]?).bind fun z59=>((De o9 nD (IntKind.i64.wrap (a3+jY)) lX).bind fun nK=>((gz (decide (nK.1.length=lX.length))).bind fun ZN=>((gz (decide (nK.2.1+nK.2.2≤nK.1.length))).bind fun z62=>((some (nk nK.1 nK.2.1 nK.2.2 z59)).bind fun ZO=>(some (.inl (ZO,o9,nD,mN,tj,(IntKind.i64.wrap (jY+1)))))))))))
theorem Mu(hd:7≤d)(a1:Int)(a2:Int)(a3:Int)(a4:Int)(a5:Int)(a6:bq)(a7:List aa){r:((List aa)×Int×Int×(List (List aa))×Int×Int)⊕(((List aa)))}(hQ:FQ (bS (rM a1 a2 a3 a4 a5 a6 a7) (w9 a1 a2 a3 a4 a5 a6 a7) r) Q)(lX:List aa)(o9:Int)(nD:Int)(mN:List (List aa))(tj:Int)(jY:Int)(hS:tq a1 a2 a3 a4 a5 a6 a7 lX o9 nD mN tj jY=some r)(he:aA [1,5,32,33,34] [(0,.id 0),(48,.id 48),(256,.id 256)] [] st=tZ a1 a2 a3 a4 a5 a6 a7 lX o9 nD mN tj jY):ZX d Q ac9 [] st:=by
 refine aC he ?_
 unfold tq at hS
 refine ay (bF (zS (zL 1 1 ?_)))
 refine ak hS (fun m58 aBj hS=>zO (v:=(.r (.ptr 256 0 ((0+m58)*1)))) (aH:= []) (some 37) 2 (.fQ 32 1 (tm 32) (tm 34)) (iK (kk:= .i64) (b:=256) (g:=0) (l:=0) (n:=mN.length) (j:=jY) (cs:=(d_ ag).cells mN) (by kernel_rfl) (by kernel_rfl) (by kernel_rfl) aBj) (ak hS (fun z59 VG hS=>zO (v:=(dE ag z59)) (aH:= []) (some 38) 3 (lf 1 37) (jl (d_ ag) (b:=256) (g:=0) (o:=(0+m58)*1) (e:=32) (k:=1) (m:=m58) (fo:=0) (xs:=mN) (by kernel_rfl) (by kernel_rfl) (by rw [Nat.zero_add];rfl) VG (by kernel_rfl) (by kernel_rfl) (by kernel_rfl)) (zL 2 5 (zK (aN (zL 4 4 ?_)))))))
 refine ak hS (fun nK VH hS=>ak hS (fun ZN awR hS=>zO (some 43) 5 (.er 38 [(tm 39),(tm 42)]) (pH [0] [(.own 100 4 (ag.cells lX))] (Hs (d-1) (bO hd rfl) o9 nD (IntKind.i64.wrap (a3+jY)) lX nK VH) (jU ag (e1:=100) (k1:=4) (xs:=lX) (ys:=nK.1) (by kernel_rfl) awR nr)) ?_))
 have aBk:lX.length=nK.1.length:=(of_decide_eq_true (gT awR)).symm
 try delta tZ
 try delta jq pN mV js jW lU lF kI
 try delta cM
 try rw [aBk]
 refine zL 1 6 (ak hS (fun z62 awS hS=>ak hS (fun ZO aqU hS=>zO (v:=(dI ((min z59.length nK.2.2:Nat):Int))) (aH:= [(0,⟨0,some (.own 100 4 (ag.cells (nk nK.1 nK.2.1 nK.2.2 z59)))⟩)]) (some 45) 7 (.Dt 4 (tm 43) (tm 44)) (I8 ag (b:=0) (g:=0) (l:=nK.2.1) (n:=nK.2.2) (e:=100) (xs:=nK.1) (ys:=z59) (by kernel_rfl) (by kernel_rfl) rfl ((congrArg (gm _) (by kernel_rfl:cK _ (.tmp 44)=(dE ag z59))).trans (awr _ _)) awS) ?_)))
 have awT:=Option.some.inj aqU
 have aBl:nK.1.length=ZO.length:=by rw [←awT];exact (Az (of_decide_eq_true (gT awS))).symm
 rw [awT]
 try delta tZ
 try delta jq pN mV js jW lU lF kI
 try delta cM
 try rw [aBl]
 refine zE (cq (aq (aN (zL 2 2 (zE ?_)))))
 exact au (gC hS hQ)
def N2(a1:Int)(a2:Int)(a3:Int)(a4:Int)(a5:Int)(a6:bq)(a7:List aa)(gl:List aa)(kN:Int)(kO:Int)(jX:List (List aa))(eM:Int)(jM:Int)(rB:Bool):St:=⟨(up (up (up (up (up (up u0 35 (dB rB)) 34 (dI jM)) 33 (dI eM)) 32 (.r (.aI 256 0 0 jX.length))) 5 (pt 48)) 1 (dI a3)),(up (up (up h0 256 ⟨0,some (.own 32 1 ((d_ ag).cells jX))⟩) 48 ⟨0,some (.box ((dI kN)::((dI kO)::((.r (.aI 0 0 0 gl.length)):: []))))⟩) 0 ⟨0,some (.own 100 4 (ag.cells gl))⟩)⟩
def mO(a1:Int)(a2:Int)(a3:Int)(a4:Int)(a5:Int)(a6:bq)(a7:List aa)(gl:List aa)(kN:Int)(kO:Int)(jX:List (List aa))(eM:Int)(jM:Int)(rB:Bool):Option (((List aa)×Int×Int×(List (List aa))×Int×Int)⊕(((List aa)))):=(bif rB then (tq a1 a2 a3 a4 a5 a6 a7 gl kN kO jX eM jM) else (some (.inr gl)))
theorem zV(hd:7≤d)(a1:Int)(a2:Int)(a3:Int)(a4:Int)(a5:Int)(a6:bq)(a7:List aa){r:((List aa)×Int×Int×(List (List aa))×Int×Int)⊕(((List aa)))}(hQ:FQ (bS (rM a1 a2 a3 a4 a5 a6 a7) (w9 a1 a2 a3 a4 a5 a6 a7) r) Q)(gl:List aa)(kN:Int)(kO:Int)(jX:List (List aa))(eM:Int)(jM:Int)(rB:Bool)(hS:mO a1 a2 a3 a4 a5 a6 a7 gl kN kO jX eM jM rB=some r)(he:aA [1,5,32,33,34,35] [(0,.id 0),(48,.id 48),(256,.id 256)] [] st=N2 a1 a2 a3 a4 a5 a6 a7 gl kN kO jX eM jM rB):ZX d Q ac_ [] st:=by
 refine aC he ?_
 unfold mO at hS
 refine ay (sR 35 hS (fun hS=>?_) (fun hS=>?_))
 ·exact zT (aJ (aq (Mu hd a1 a2 a3 a4 a5 a6 a7 hQ gl kN kO jX eM jM hS (by kernel_rfl))))
 ·exact zF (aC (J:=Cl a1 a2 a3 a4 a5 a6 a7 gl) (by kernel_rfl) (cP (cG (au (iW hS hQ)))))
def vp(a1:Int)(a2:Int)(a3:Int)(a4:Int)(a5:Int)(a6:bq)(a7:List aa)(x:(List aa)×Int×Int×(List (List aa))×Int×Int):Option (((List aa)×Int×Int×(List (List aa))×Int×Int)⊕(((List aa)))):=(bif (decide (x.2.2.2.2.2<x.2.2.2.2.1)) then (mO a1 a2 a3 a4 a5 a6 a7 x.1 x.2.1 x.2.2.1 x.2.2.2.1 x.2.2.2.2.1 x.2.2.2.2.2 true) else (mO a1 a2 a3 a4 a5 a6 a7 x.1 x.2.1 x.2.2.1 x.2.2.2.1 x.2.2.2.2.1 x.2.2.2.2.2 false))
theorem V5(hd:7≤d)(a1:Int)(a2:Int)(a3:Int)(a4:Int)(a5:Int)(a6:bq)(a7:List aa){r:((List aa)×Int×Int×(List (List aa))×Int×Int)⊕(((List aa)))}(hQ:FQ (bS (rM a1 a2 a3 a4 a5 a6 a7) (w9 a1 a2 a3 a4 a5 a6 a7) r) Q){x:(List aa)×Int×Int×(List (List aa))×Int×Int}(hS:vp a1 a2 a3 a4 a5 a6 a7 x=some r)(he:rM a1 a2 a3 a4 a5 a6 a7 x st):ZX d Q ada [] st:=by
 refine aC he ?_
 unfold vp at hS
 refine zS ?_
 refine sB 35 1 (.a_ .lss (tm 34) (tm 33)) hS (fun hS=>?_) (fun hS=>?_)
 ·refine zK ?_
  exact zV hd a1 a2 a3 a4 a5 a6 a7 hQ x.1 x.2.1 x.2.2.1 x.2.2.2.1 x.2.2.2.2.1 x.2.2.2.2.2 true hS (by kernel_rfl)
 ·refine zK ?_
  exact zV hd a1 a2 a3 a4 a5 a6 a7 hQ x.1 x.2.1 x.2.2.1 x.2.2.2.1 x.2.2.2.2.1 x.2.2.2.2.2 false hS (by kernel_rfl)
def Dg(a1:Int)(a2:Int)(a3:Int)(a4:Int)(a5:Int)(a6:bq)(a7:List aa)(mz:List aa)(wZ:List (List aa)):St:=⟨(up (up (up (up (up u0 10 (.r (.aI 88 0 0 wZ.length))) 9 (pt 80)) 5 (pt 48)) 3 (dI a5)) 1 (dI a3)),(up (up (up (up h0 88 ⟨0,some (.own 32 1 ((d_ ag).cells wZ))⟩) 80 (uO a6)) 48 ⟨0,some (.box ((dI a1)::((dI a2)::((.r (.aI 0 0 0 mz.length)):: []))))⟩) 0 ⟨0,some (.own 100 4 (ag.cells mz))⟩)⟩
def FL(a1:Int)(a2:Int)(a3:Int)(a4:Int)(a5:Int)(a6:bq)(a7:List aa)(mz:List aa)(wZ:List (List aa)):Option ((List aa)):=((f314 (IntKind.i64.wrap (0-a5)) wZ a1 a2 a6 mz).bind fun z37=>((gz (decide (z37.2.2.1.length=mz.length))).bind fun IP=>((gz (decide (z37.2.2.2.2.1.length=wZ.length))).bind fun tU=>((bR (vp a1 a2 a3 a4 a5 a6 a7) (z37.2.2.1,z37.1,z37.2.1,z37.2.2.2.2.2,(z37.2.2.2.2.2.length:Int),0)).bind fun z64=>(some z64)))))
theorem V6(hd:7≤d)(a1:Int)(a2:Int)(a3:Int)(a4:Int)(a5:Int)(a6:bq)(a7:List aa){r:(List aa)}(hQ:FQ (aed r) Q)(mz:List aa)(wZ:List (List aa))(hS:FL a1 a2 a3 a4 a5 a6 a7 mz wZ=some r)(he:aA [1,3,5,9,10] [(0,.id 0),(48,.id 48),(80,.id 80),(88,.id 88)] [] st=Dg a1 a2 a3 a4 a5 a6 a7 mz wZ):ZX d Q adb [] st:=by
 refine aC he ?_
 unfold FL at hS
 refine zS (zL 4 4 ?_)
 refine ak hS (fun z37 E1 hS=>ak hS (fun IP Ij hS=>ak hS (fun tU Ik hS=>zO (some 31) 5 (.er 314 [(tm 27),(tm 29),(tm 30)]) (pH [88,48,80,0] [(.own 32 1 ((d_ ag).cells wZ)),(.box ((dI a1)::((dI a2)::((.r (.aI 0 0 0 mz.length)):: [])))),(.box ((dI a6.Flags)::((dI a6.cz)::((dI a6.b9):: [])))),(.own 100 4 (ag.cells mz))] (aqR (d-1) (bO hd rfl) (IntKind.i64.wrap (0-a5)) wZ a1 a2 a6 mz z37 E1) (jU (d_ ag) (e1:=32) (k1:=1) (xs:=wZ) (ys:=z37.2.2.2.2.1) (by kernel_rfl) Ik (I9 (cs:=((dI a1)::((dI a2)::((.r (.aI 0 0 0 mz.length)):: [])))) (by kernel_rfl) (I9 (cs:=((dI a6.Flags)::((dI a6.cz)::((dI a6.b9):: [])))) (by kernel_rfl) (jU ag (e1:=100) (k1:=4) (xs:=mz) (ys:=z37.2.2.1) (by kernel_rfl) Ij nr))))) ?_)))
 have aBm:mz.length=z37.2.2.1.length:=(of_decide_eq_true (gT Ij)).symm
 try delta Dg
 try delta jq pN mV js jW lU lF kI
 try delta cM
 try rw [aBm]
 have aBn:wZ.length=z37.2.2.2.2.1.length:=(of_decide_eq_true (gT Ik)).symm
 try delta Dg
 try delta jq pN mV js jW lU lF kI
 try delta cM
 try rw [aBn]
 refine zL 1 6 (zK (zS (zL 3 3 (zK ?_))))
 refine bF (ak hS (fun z64 aqV hS=>dD (rM a1 a2 a3 a4 a5 a6 a7) (w9 a1 a2 a3 a4 a5 a6 a7) (fun x st r Q h0 hS hQ=>V5 hd a1 a2 a3 a4 a5 a6 a7 hQ hS h0) (x:=(z37.2.2.1,z37.1,z37.2.1,z37.2.2.2.2.2,(z37.2.2.2.2.2.length:Int),0)) (z:=z64) (by show aA _ _ _ _=_;kernel_rfl) aqV ?_))
 intro e bX _ hX
 obtain ⟨rfl,rfl⟩:_∧_:=hX
 exact cQ (au (aM hS hQ (I4 (by kernel_rfl) (by kernel_rfl:dZ Pg.fin _=PC z64) (by kernel_rfl) (aid z64))))
def ZP(a1:Int)(a2:Int)(a3:Int)(a4:Int)(a5:Int)(a6:bq)(a7:List aa)(x:(List aa)×(List (List aa))×Int):St:=⟨(up (up (up (up (up (up (up u0 11 (dI x.2.2)) 10 (.r (.aI 88 0 0 x.2.1.length))) 9 (pt 80)) 5 (pt 48)) 3 (dI a5)) 2 (dI a4)) 1 (dI a3)),(up (up (up (up h0 88 ⟨0,some (.own 32 1 ((d_ ag).cells x.2.1))⟩) 80 (uO a6)) 48 ⟨0,some (.box ((dI a1)::((dI a2)::((.r (.aI 0 0 0 x.1.length)):: []))))⟩) 0 ⟨0,some (.own 100 4 (ag.cells x.1))⟩)⟩
def w_(a1:Int)(a2:Int)(a3:Int)(a4:Int)(a5:Int)(a6:bq)(a7:List aa)(x:(List aa)×(List (List aa))×Int)(st:St):Prop:=aA [1,2,3,5,9,10,11] [(0,.id 0),(48,.id 48),(80,.id 80),(88,.id 88)] [] st=ZP a1 a2 a3 a4 a5 a6 a7 x
def Cm(a1:Int)(a2:Int)(a3:Int)(a4:Int)(a5:Int)(a6:bq)(a7:List aa)(j0:List aa)(dW:List (List aa)):St:=⟨(up (up (up (up (up u0 10 (.r (.aI 88 0 0 dW.length))) 9 (pt 80)) 5 (pt 48)) 3 (dI a5)) 1 (dI a3)),(up (up (up (up h0 88 ⟨0,some (.own 32 1 ((d_ ag).cells dW))⟩) 80 (uO a6)) 48 ⟨0,some (.box ((dI a1)::((dI a2)::((.r (.aI 0 0 0 j0.length)):: []))))⟩) 0 ⟨0,some (.own 100 4 (ag.cells j0))⟩)⟩
def Dh(a1:Int)(a2:Int)(a3:Int)(a4:Int)(a5:Int)(a6:bq)(a7:List aa)(z:((List aa)×(List (List aa))))(e:PX)(st:St):Prop:=e= .exit 0∧st=Cm a1 a2 a3 a4 a5 a6 a7 z.1 z.2
def Cn(a1:Int)(a2:Int)(a3:Int)(a4:Int)(a5:Int)(a6:bq)(a7:List aa)(xM:List aa)(FM:List (List aa))(nO:Int):St:=⟨(up (up (up (up (up (up (up u0 11 (dI nO)) 10 (.r (.aI 88 0 0 FM.length))) 9 (pt 80)) 5 (pt 48)) 3 (dI a5)) 2 (dI a4)) 1 (dI a3)),(up (up (up (up h0 88 ⟨0,some (.own 32 1 ((d_ ag).cells FM))⟩) 80 (uO a6)) 48 ⟨0,some (.box ((dI a1)::((dI a2)::((.r (.aI 0 0 0 xM.length)):: []))))⟩) 0 ⟨0,some (.own 100 4 (ag.cells xM))⟩)⟩
def tu(a1:Int)(a2:Int)(a3:Int)(a4:Int)(a5:Int)(a6:bq)(a7:List aa)(xM:List aa)(FM:List (List aa))(nO:Int):Option (((List aa)×(List (List aa))×Int)⊕(((List aa)×(List (List aa))))):=((De a1 a2 nO xM).bind fun zX=>((gz (decide (zX.1.length=xM.length))).bind fun z66=>((kq zX.1 zX.2.1 zX.2.2).bind fun z67=>((f91 z67).bind fun Bt=>((fT 24 FM ([Bt]:List (List aa))).bind fun Vz=>(some (.inl (zX.1,Vz,(IntKind.i64.wrap (nO+1))))))))))
theorem Mv(hd:7≤d)(a1:Int)(a2:Int)(a3:Int)(a4:Int)(a5:Int)(a6:bq)(a7:List aa){r:((List aa)×(List (List aa))×Int)⊕(((List aa)×(List (List aa))))}(hQ:FQ (bS (w_ a1 a2 a3 a4 a5 a6 a7) (Dh a1 a2 a3 a4 a5 a6 a7) r) Q)(xM:List aa)(FM:List (List aa))(nO:Int)(hS:tu a1 a2 a3 a4 a5 a6 a7 xM FM nO=some r)(he:aA [1,2,3,5,9,10,11] [(0,.id 0),(48,.id 48),(80,.id 80),(88,.id 88)] [] st=Cn a1 a2 a3 a4 a5 a6 a7 xM FM nO):ZX d Q ac7 [] st:=by
 refine aC he ?_
 unfold tu at hS
 refine ay (bF (aN (zL 3 3 ?_)))
 refine ak hS (fun zX aqW hS=>ak hS (fun z66 aee hS=>zO (some 23) 4 (.er 38 [(tm 21),(tm 22)]) (pH [0] [(.own 100 4 (ag.cells xM))] (Hs (d-1) (bO hd rfl) a1 a2 nO xM zX aqW) (jU ag (e1:=100) (k1:=4) (xs:=xM) (ys:=zX.1) (by kernel_rfl) aee nr)) ?_))
 have aBo:xM.length=zX.1.length:=(of_decide_eq_true (gT aee)).symm
 try delta Cn
 try delta jq pN mV js jW lU lF kI
 try delta cM
 try rw [aBo]
 refine ak hS (fun z67 aqc hS=>ak hS (fun Bt aqd hS=>zO (some 24) 5 (c1 91 23) (nX (args:= [(.r (.aI 0 0 zX.2.1 zX.2.2))]) (by kernel_rfl) (lZ (aa0 ag (e:=100) (k:=4) (xs:=zX.1) (by kernel_rfl) rfl aqc) tK) (oz (d-1) (bO hd rfl) z67 Bt aqd) (by simp only [qi ag (fun _=>rfl),qj,ql,uy,uz,qm,nY,qo,uA,uB,uC,Bool.and_true,Bool.or_true,Bool.and_self]) (by kernel_rfl)) (zO (v:=(.r (.aI 208 1 0 (([Bt]:List (List aa)).length)))) (aH:= [(200,⟨2,none⟩),(208,⟨1,some (.own 32 1 ((d_ ag).cells ([Bt])))⟩)]) (some 25) 6 (.tC 32 1 1 [(1,(.slice .none 0 0))] [(0,(1,(tm 24)))]) ((by kernel_rfl:aD _ _ 25 (cK _) (.tC 32 1 1 [(1,(.slice .none 0 0))] [(0,(1,(.tmp 24)))])=some ((.r (.aI 208 1 0 (([Bt]:List (List aa)).length))),[(200,⟨2,none⟩),(208,⟨1,some (.own 32 1 [.sl Bt.length (((ag.cells Bt).drop (0*ag.k)).take (Bt.length*ag.k))])⟩)])).trans (by simp only [dJ.II];rfl)) (ak hS (fun Vz aqe hS=>zO (v:=(.r (.aI 88 1 0 Vz.length))) (aH:= [(88,⟨1,some (.own 32 1 ((d_ ag).cells Vz))⟩)]) (some 26) 7 (.app 32 1 24 (tm 20) (tm 25)) (fJ (d_ ag) (b:=88) (g:=0) (n:=FM.length) (xs:=FM) (ys:= [Bt]) ((congrArg (gm _) (by kernel_rfl:cK _ (.tmp 25)=(.r (.aI 208 1 0 (([Bt]:List (List aa)).length))))).trans (en (d_ ag) (e:=32) (k:=1) (xs:= [Bt]) (by kernel_rfl) rfl rfl)) rfl (by kernel_rfl) rfl (by kernel_rfl) rfl aqe) (zL 1 8 (zE ?_)))))))
 refine cq (aq (aN (zL 3 3 (zE ?_))))
 exact au (gC hS hQ)
def rN(a1:Int)(a2:Int)(a3:Int)(a4:Int)(a5:Int)(a6:bq)(a7:List aa)(x:(List aa)×(List (List aa))×Int):Option (((List aa)×(List (List aa))×Int)⊕(((List aa)×(List (List aa))))):=(bif (decide (x.2.2<a4)) then (tu a1 a2 a3 a4 a5 a6 a7 x.1 x.2.1 x.2.2) else (some (.inr (x.1,x.2.1))))
theorem V7(hd:7≤d)(a1:Int)(a2:Int)(a3:Int)(a4:Int)(a5:Int)(a6:bq)(a7:List aa){r:((List aa)×(List (List aa))×Int)⊕(((List aa)×(List (List aa))))}(hQ:FQ (bS (w_ a1 a2 a3 a4 a5 a6 a7) (Dh a1 a2 a3 a4 a5 a6 a7) r) Q){x:(List aa)×(List (List aa))×Int}(hS:rN a1 a2 a3 a4 a5 a6 a7 x=some r)(he:w_ a1 a2 a3 a4 a5 a6 a7 x st):ZX d Q ac8 [] st:=by
 refine aC he ?_
 unfold rN at hS
 refine ay (zS (zL 2 2 ?_))
 refine sB 17 3 (.a_ .lss (tm 15) (tm 16)) hS (fun hS=>?_) (fun hS=>?_)
 ·refine zK (zT ?_)
  exact aJ (aq (Mv hd a1 a2 a3 a4 a5 a6 a7 hQ x.1 x.2.1 x.2.2 hS (by kernel_rfl)))
 ·refine zK (zF ?_)
  exact aC (J:=Cm a1 a2 a3 a4 a5 a6 a7 x.1 x.2.1) (by kernel_rfl) (cP (cG (au (iW hS hQ))))
def f301(a1:Int)(a2:Int)(a3:Int)(a4:Int)(a5:Int)(a6:bq)(a7:List aa):Option ((List aa)):=((bR (rN a1 a2 a3 a4 a5 a6 a7) (a7,[],a3)).bind fun z70=>(FL a1 a2 a3 a4 a5 a6 a7 z70.1 z70.2))
theorem aqX(d:Nat)(hd:7≤d)(a1:Int)(a2:Int)(a3:Int)(a4:Int)(a5:Int)(a6:bq)(a7:List aa)(r:(List aa))(hS:f301 a1 a2 a3 a4 a5 a6 a7=some r):cg az bE d 301 [(.agg ((dI a1)::((dI a2)::((.r (.aI 0 0 0 a7.length)):: [])))),(dI a3),(dI a4),(dI a5),(lT a6)] [(.own 100 4 (ag.cells a7))]=some ((.bZ []),[(.own 100 4 (ag.cells r)),.box []]):=by
 refine dN hd (fun Q hQ=>?_) agH
 unfold f301 at hS
 show ZR _ Q ade [] _
 replace hQ:FQ (aed r) Q:=hQ
 refine zS (zL 2 2 (zK (zS (zL 1 1 (zK (ay (zS (zL 2 2 (zK ?_)))))))))
 refine bF (ak hS (fun z70 aqf hS=>dD (w_ a1 a2 a3 a4 a5 a6 a7) (Dh a1 a2 a3 a4 a5 a6 a7) (fun x st r Q h0 hS hQ=>V7 hd a1 a2 a3 a4 a5 a6 a7 hQ hS h0) (x:=(a7,[],a3)) (z:=z70) (by show aA _ _ _ _=_;kernel_rfl) aqf ?_))
 intro e bX _ hX
 obtain ⟨rfl,rfl⟩:_∧_:=hX
 exact cQ (aq (V6 hd a1 a2 a3 a4 a5 a6 a7 hQ z70.1 z70.2 hS (by kernel_rfl)))
/- (*farwriter/screen.terminal).index -/
def aif(p7:aB):St:=⟨(up (up (up u0 1000003 .un) 1000002 .un) 1000001 .un),(mV p7)⟩
theorem PE(p7:aB):bA (aif p7) 4 U4.res=some ((.bZ []),[(js p7),(bP p7.af),(bU p7.af),(cA p7.af)]):=by
 kernel_rfl
def aef(r:aB)(e:PX)(st:St):Prop:=bh U4 4 ((.bZ []),[(js r),(bP r.af),(bU r.af),(cA r.af)]) e st
def Mw(a1:aB)(eG:aB):St:=⟨(up (up (up (up u0 1000003 .un) 1000002 .un) 1000001 .un) 0 (pt 0)),(mV eG)⟩
def nE(a1:aB)(eG:aB):Option (aB):=((f276 eG []).bind fun z12=>((f301 eG.af.aT.bV eG.af.aT.cC eG.af.jo eG.af.dy 1 z12 eG.af.aT.Cells).bind fun fu=>((gz (decide (fu.length=eG.af.aT.Cells.length))).bind fun mU=>(some (aB.mk ({eG.af with aT:=(aV.mk eG.af.aT.bV eG.af.aT.cC fu)}) eG.sent)))))
theorem zY(hd:8≤d)(a1:aB){r:aB}(hQ:FQ (aef r) Q)(eG:aB)(hS:nE a1 eG=some r)(he:aA [0,1000001,1000002,1000003] [(0,.id 0),(1,.id 1),(2,.id 2),(3,.id 3)] [] st=Mw a1 eG):ZX d Q adf [.blk 0] st:=by
 refine aC he ?_
 unfold nE at hS
 refine ez (dx 16 16 (ak hS (fun z12 iz hS=>eT (some 81) 17 none (c1 276 80) (aW (V3 (d-1) (bO hd rfl) eG [] z12 iz)) (ak hS (fun fu lO hS=>ak hS (fun mU xJ hS=>eT (some 82) 18 none (.er 301 [(tm 69),(tm 74),(tm 79),(ki 1),(tm 81)]) (pH [1] [(bP eG.af)] (aqX (d-1) (bO hd rfl) eG.af.aT.bV eG.af.aT.cC eG.af.jo eG.af.dy 1 z12 eG.af.aT.Cells fu lO) (jU ag (e1:=100) (k1:=4) (xs:=eG.af.aT.Cells) (ys:=fu) (by kernel_rfl) xJ nr)) ?_))))))
 have aBp:eG.af.aT.Cells.length=fu.length:=(of_decide_eq_true (gT xJ)).symm
 try delta Mw
 try delta jq pN mV js jW lU lF kI
 try delta cM
 try rw [aBp]
 exact iC (cq (au (aM hS hQ (fN (PE (aB.mk ({eG.af with aT:=(aV.mk eG.af.aT.bV eG.af.aT.cC fu)}) eG.sent))))))
def f273(a1:aB):Option (aB):=(bif (decide (a1.af.Row=(IntKind.i64.wrap (a1.af.dy-1)))) then (bif (decide (a1.af.jo=0)) then ((f274 (aB.mk ({a1.af with eL:=false}) a1.sent) [] 256).bind fun fV=>(bif (!fV) then ((f300 a1.af.aT 0).bind fun f_=>((fT 24 a1.af.cD ([(bk.mk f_)]:List bk)).bind fun gA=>(bif (decide (40<(gA.length:Int))) then ((KC gA 1 (gA.length:Int)).bind fun iw=>(nE a1 (aB.mk ({a1.af with eL:=false,cD:=iw}) a1.sent))) else (nE a1 (aB.mk ({a1.af with eL:=false,cD:=gA}) a1.sent))))) else (nE a1 (aB.mk ({a1.af with eL:=false}) a1.sent)))) else none) else (bif (decide (a1.af.Row<(IntKind.i64.wrap (a1.af.aT.cC-1)))) then (some (aB.mk ({a1.af with Row:=(IntKind.i64.wrap (a1.af.Row+1)),eL:=false}) a1.sent)) else none))
theorem V8(d:Nat)(hd:8≤d)(a1:aB)(r:aB)(hS:f273 a1=some r):cg az bE d 273 [(pt 0)] [(js a1),(bP a1.af),(bU a1.af),(cA a1.af)]=some ((.bZ []),[(js r),(bP r.af),(bU r.af),(cA r.af)]):=by
 refine dN hd (fun Q hQ=>?_) agA
 unfold f273 at hS
 show ZR _ Q adg [] _
 replace hQ:FQ (aef r) Q:=hQ
 refine zS (zL 5 5 (zK ?_))
 refine bF (ay (ez (dx 11 11 (D6 18 12 none (.a_ .eql (tm 11) (tm 17)) hS (fun hS=>?_) (fun hS=>?_)))))
 ·refine dx 1 13 (iC (aq (zT (ay (zS (zL 5 5 ?_))))))
  refine sB 24 6 (ck 23 0) hS (fun hS=>?_) (fun hS=>?_)
  ·refine zL 2 8 (ak hS (fun fV qL hS=>zG (some 27) 9 25 true (.call 274 [(tm 26),(ki 256)]) (aW (FI (d-1) (bO hd rfl) (aB.mk ({a1.af with eL:=false}) a1.sent) [] 256 fV qL)) (zL 2 11 (zK ?_))))
   refine sR 29 hS (fun hS=>?_) (fun hS=>?_)
   ·refine zT (ay ?_)
    refine ez (dx 11 11 (ak hS (fun f_ nM hS=>eT (some 41) 12 none (.call 300 [(tm 40),(ki 0)]) (nX (args:= [(.agg ((dI a1.af.aT.bV)::((dI a1.af.aT.cC)::((.r (.aI 1 0 0 a1.af.aT.Cells.length)):: [])))),(dI 0)]) (by kernel_rfl) (lZ (XN (lk (lk (lZ (KF ag (e:=100) (k:=4) (xs:=a1.af.aT.Cells) (by kernel_rfl) rfl rfl) tK)))) (lk tK)) (aqO (d-1) (bO hd rfl) a1.af.aT 0 f_ nM) (by simp only [qi ag (fun _=>rfl),qj,ql,uy,uz,qm,nY,qo,uA,uB,uC,Bool.and_true,Bool.or_true,Bool.and_self]) (by kernel_rfl)) (dx 1 13 (eT (v:=(.r (.aI 352 1 0 (([(bk.mk f_)]:List bk).length)))) (aH:= [(336,⟨2,none⟩),(352,⟨1,some (.own 91 1 (bJ.cells ([(bk.mk f_)])))⟩)]) (some 43) 14 none (.tC 91 1 1 [(1,(.slice .none 0 0))] [(0,(1,(tm 42)))]) ((by kernel_rfl:aD _ _ 43 (cK _) (.tC 91 1 1 [(1,(.slice .none 0 0))] [(0,(1,(.tmp 42)))])=some ((.r (.aI 352 1 0 (([(bk.mk f_)]:List bk).length))),[(336,⟨2,none⟩),(352,⟨1,some (.own 91 1 [.sl f_.length (((ag.cells f_).drop (0*ag.k)).take (f_.length*ag.k))])⟩)])).trans (by simp only [dJ.II];rfl)) (ak hS (fun gA qM hS=>eT (v:=(.r (.aI 3 1 0 gA.length))) (aH:= [(3,⟨1,some (.own 91 1 (bJ.cells gA))⟩)]) (some 44) 15 none (.app 91 1 24 (tm 35) (tm 43)) (fJ bJ (b:=3) (g:=0) (n:=a1.af.cD.length) (xs:=a1.af.cD) (ys:= [(bk.mk f_)]) ((congrArg (gm _) (by kernel_rfl:cK _ (.tmp 43)=(.r (.aI 352 1 0 (([(bk.mk f_)]:List bk).length))))).trans (en bJ (e:=91) (k:=1) (xs:= [(bk.mk f_)]) (by kernel_rfl) rfl rfl)) rfl (by kernel_rfl) rfl (by kernel_rfl) rfl qM) (dx 4 19 (iC (aq (zS (zL 6 6 ?_))))))))))))
    refine sB 54 7 (.a_ .gtr (tm 53) (ki 40)) hS (fun hS=>?_) (fun hS=>?_)
    ·refine zK (zT (aN (zL 6 6 ?_)))
     refine ak hS (fun iw oQ hS=>zO (v:=(.r (.aI 3 2 0 iw.length))) (aH:= [(3,⟨2,some (.own 91 1 (bJ.cells iw))⟩)]) (some 61) 7 (.JO 91 1 (tm 60) (.some (ki 1)) .none) (as1 bJ (b:=3) (g:=1) (n:=gA.length) (a:=1) (c:=(gA.length:Int)) (xs:=gA) (by kernel_rfl) rfl (by kernel_rfl) rfl (jQ _ (kk:= .i64) (j:=1) (by kernel_rfl)) (tJ _) oQ) (zL 4 11 (zK ?_)))
     exact zY hd a1 hQ (aB.mk ({a1.af with eL:=false,cD:=iw}) a1.sent) hS (by kernel_rfl)
    ·refine zK (zF ?_)
     exact aJ (aq (zY hd a1 hQ (aB.mk ({a1.af with eL:=false,cD:=gA}) a1.sent) hS (by kernel_rfl)))
   ·exact zF (aJ (aq (zY hd a1 hQ (aB.mk ({a1.af with eL:=false}) a1.sent) hS (by kernel_rfl))))
  ·cases hS
 ·refine dx 1 13 (iC (aq (zF (ay ?_))))
  refine ez (dx 12 12 (D6 96 13 none (.a_ .lss (tm 88) (tm 95)) hS (fun hS=>?_) (fun hS=>?_)))
  ·refine dx 1 14 (iC (aq (zT (aN (zL 10 10 (zE ?_))))))
   exact cq (au (aM hS hQ (fN (PE (aB.mk ({a1.af with Row:=(IntKind.i64.wrap (a1.af.Row+1)),eL:=false}) a1.sent)))))
  ·cases hS
/- farwriter/grid.repair -/
def PF(j7:List aa):St:=⟨(up u0 2000000 .un),(up h0 0 ⟨0,some (.own 100 4 (ag.cells j7))⟩)⟩
theorem aih(j7:List aa):bA (PF j7) 1 Ph.res=some ((.bZ []),[(.own 100 4 (ag.cells j7))]):=by
 kernel_rfl
def avq(r:(List aa))(e:PX)(st:St):Prop:=bh Ph 1 ((.bZ []),[(.own 100 4 (ag.cells r)),.box []]) e st
def ZQ(a1:Nat)(a2:Nat)(a3:List aa)(x:(List aa)×Int):St:=⟨(up (up (up (up u0 8 (dI x.2)) 7 (dI (a2:Int))) 2 (.r (.aI 48 0 0 x.1.length))) 0 (.r (.aI 0 0 a1 a2))),(up (up h0 48 ⟨0,some (.own 100 4 (ag.cells x.1))⟩) 0 ⟨0,some (.own 100 4 (ag.cells a3))⟩)⟩
def rO(a1:Nat)(a2:Nat)(a3:List aa)(x:(List aa)×Int)(st:St):Prop:=aA [0,2,7,8] [(0,.id 0),(48,.id 48)] [] st=ZQ a1 a2 a3 x
def Co(a1:Nat)(a2:Nat)(a3:List aa):St:=⟨u0,(up h0 0 ⟨0,some (.own 100 4 (ag.cells a3))⟩)⟩
def xb(a1:Nat)(a2:Nat)(a3:List aa)(z:Unit)(e:PX)(st:St):Prop:=e= .exit 0∧st=Co a1 a2 a3
def N3(a1:Nat)(a2:Nat)(a3:List aa)(iX:List aa)(pI:Int):St:=⟨(up (up (up (up u0 8 (dI pI)) 7 (dI (a2:Int))) 2 (.r (.aI 48 0 0 iX.length))) 0 (.r (.aI 0 0 a1 a2))),(up (up h0 48 ⟨0,some (.own 100 4 (ag.cells iX))⟩) 0 ⟨0,some (.own 100 4 (ag.cells a3))⟩)⟩
def tv(a1:Nat)(a2:Nat)(a3:List aa)(iX:List aa)(pI:Int):Option (((List aa)×Int)⊕Unit):=((f147 iX pI).bind fun z23=>(bif z23 then ((iJ pI iX.length).bind fun m24=>((iX[m24]?).bind fun z25=>none)) else (some (.inl (iX,(IntKind.i64.wrap (pI+1)))))))
theorem Mx(hd:4≤d)(a1:Nat)(a2:Nat)(a3:List aa){r:((List aa)×Int)⊕Unit}(hQ:FQ (bS (rO a1 a2 a3) (xb a1 a2 a3) r) Q)(iX:List aa)(pI:Int)(hS:tv a1 a2 a3 iX pI=some r)(he:aA [0,2,7,8] [(0,.id 0),(48,.id 48)] [] st=N3 a1 a2 a3 iX pI):ZX d Q adh [] st:=by
 refine aC he ?_
 unfold tv at hS
 refine ay (bF (zS (zL 2 2 (zK (zS (zL 2 2 ?_))))))
 refine ak hS (fun z23 qJ hS=>zO (some 13) 3 (.call 147 [(tm 11),(tm 12)]) (nX (args:= [(.r (.aI 48 0 0 iX.length)),(dI pI)]) (by kernel_rfl) (lZ (KF ag (e:=100) (k:=4) (xs:=iX) (by kernel_rfl) rfl rfl) (lk tK)) (LX (d-1) (bO hd rfl) iX pI z23 qJ) (by kernel_rfl) (by kernel_rfl)) (zK ?_))
 refine sR 13 hS (fun hS=>?_) (fun hS=>?_)
 ·refine zT (aN (zL 4 4 ?_))
  refine ak hS (fun m24 aqY hS=>zO (v:=(.r (.ptr 48 0 ((0+m24)*4)))) (aH:= []) (some 18) 5 (.fQ 100 4 (tm 16) (tm 17)) (iK (kk:= .i64) (b:=48) (g:=0) (l:=0) (n:=iX.length) (j:=pI) (cs:=ag.cells iX) (by kernel_rfl) (by kernel_rfl) (by kernel_rfl) aqY) (zL 1 6 (ak hS (fun z25 nL hS=>zO (v:=(lT z25.bM)) (aH:= []) (some 20) 7 (lt 3 19) (jl ag (b:=48) (g:=0) (o:=(0+m24)*4+1) (e:=100) (k:=4) (m:=m24) (fo:=1) (xs:=iX) (by kernel_rfl) (by kernel_rfl) (by rw [Nat.zero_add];rfl) nL (by kernel_rfl) (by kernel_rfl) (by kernel_rfl)) ?_))))
  cases hS
 ·refine zF (aJ (cq (aq (aN (zL 2 2 (zE ?_))))))
  exact au (gC hS hQ)
def N4(a1:Nat)(a2:Nat)(a3:List aa)(lV:List aa)(h_:Int)(j5:Bool):St:=⟨(up (up (up (up (up u0 9 (dB j5)) 8 (dI h_)) 7 (dI (a2:Int))) 2 (.r (.aI 48 0 0 lV.length))) 0 (.r (.aI 0 0 a1 a2))),(up (up h0 48 ⟨0,some (.own 100 4 (ag.cells lV))⟩) 0 ⟨0,some (.own 100 4 (ag.cells a3))⟩)⟩
def mP(a1:Nat)(a2:Nat)(a3:List aa)(lV:List aa)(h_:Int)(j5:Bool):Option (((List aa)×Int)⊕Unit):=(bif j5 then (tv a1 a2 a3 lV h_) else (some (.inr ())))
theorem zZ(hd:4≤d)(a1:Nat)(a2:Nat)(a3:List aa){r:((List aa)×Int)⊕Unit}(hQ:FQ (bS (rO a1 a2 a3) (xb a1 a2 a3) r) Q)(lV:List aa)(h_:Int)(j5:Bool)(hS:mP a1 a2 a3 lV h_ j5=some r)(he:aA [0,2,7,8,9] [(0,.id 0),(48,.id 48)] [] st=N4 a1 a2 a3 lV h_ j5):ZX d Q adi [] st:=by
 refine aC he ?_
 unfold mP at hS
 refine ay (sR 9 hS (fun hS=>?_) (fun hS=>?_))
 ·exact zT (aJ (aq (Mx hd a1 a2 a3 hQ lV h_ hS (by kernel_rfl))))
 ·exact zF (aC (J:=Co a1 a2 a3) (by kernel_rfl) (cP (cG (au (iW hS hQ)))))
def vq(a1:Nat)(a2:Nat)(a3:List aa)(x:(List aa)×Int):Option (((List aa)×Int)⊕Unit):=(bif (decide (x.2<(a2:Int))) then (mP a1 a2 a3 x.1 x.2 true) else (mP a1 a2 a3 x.1 x.2 false))
theorem V9(hd:4≤d)(a1:Nat)(a2:Nat)(a3:List aa){r:((List aa)×Int)⊕Unit}(hQ:FQ (bS (rO a1 a2 a3) (xb a1 a2 a3) r) Q){x:(List aa)×Int}(hS:vq a1 a2 a3 x=some r)(he:rO a1 a2 a3 x st):ZX d Q adj [] st:=by
 refine aC he ?_
 unfold vq at hS
 refine zS ?_
 refine sB 9 1 (.a_ .lss (tm 8) (tm 7)) hS (fun hS=>?_) (fun hS=>?_)
 ·refine zK ?_
  exact zZ hd a1 a2 a3 hQ x.1 x.2 true hS (by kernel_rfl)
 ·refine zK ?_
  exact zZ hd a1 a2 a3 hQ x.1 x.2 false hS (by kernel_rfl)
def f170(a1:Nat)(a2:Nat)(a3:List aa):Option ((List aa)):=((kq a3 a1 a2).bind fun z12=>((f91 z12).bind fun fu=>((bR (vq a1 a2 a3) (fu,0)).bind fun z26=>(some a3))))
theorem aqZ(d:Nat)(hd:4≤d)(a1:Nat)(a2:Nat)(a3:List aa)(r:(List aa))(hS:f170 a1 a2 a3=some r):cg az bE d 170 [(.r (.aI 0 0 a1 a2))] [(.own 100 4 (ag.cells a3))]=some ((.bZ []),[(.own 100 4 (ag.cells r)),.box []]):=by
 refine dN hd (fun Q hQ=>?_) agi
 unfold f170 at hS
 show ZR _ Q adk [] _
 replace hQ:FQ (avq r) Q:=hQ
 refine zS (zL 1 1 ?_)
 refine ak hS (fun z12 iz hS=>ak hS (fun fu lO hS=>zO (some 5) 2 (c1 91 4) (nX (args:= [(.r (.aI 0 0 a1 a2))]) (by kernel_rfl) (lZ (aa0 ag (e:=100) (k:=4) (xs:=a3) (by kernel_rfl) rfl iz) tK) (oz (d-1) (bO hd rfl) z12 fu lO) (by simp only [qi ag (fun _=>rfl),qj,ql,uy,uz,qm,nY,qo,uA,uB,uC,Bool.and_true,Bool.or_true,Bool.and_self]) (by kernel_rfl)) (zL 1 3 (zK (zS (zL 3 3 (zK ?_)))))))
 refine bF (ak hS (fun z26 nt hS=>dD (rO a1 a2 a3) (xb a1 a2 a3) (fun x st r Q h0 hS hQ=>V9 hd a1 a2 a3 hQ hS h0) (x:=(fu,0)) (z:=z26) (by show aA _ _ _ _=_;kernel_rfl) nt ?_))
 intro e bX _ hX
 obtain ⟨rfl,rfl⟩:_∧_:=hX
 exact cQ (au (aM hS hQ (I4 (by kernel_rfl) (by kernel_rfl:dZ Ph.fin _=PF a3) (by kernel_rfl) (aih a3))))
/- farwriter/grid.PutIn -/
def PG(p1:List aa):St:=⟨(up u0 2000000 .un),(up h0 0 ⟨0,some (.own 100 4 (ag.cells p1))⟩)⟩
theorem aii(p1:List aa):bA (PG p1) 1 Pj.res=some ((.bZ []),[(.own 100 4 (ag.cells p1))]):=by
 kernel_rfl
def avr(r:(List aa))(e:PX)(st:St):Prop:=bh Pj 1 ((.bZ []),[(.own 100 4 (ag.cells r)),.box []]) e st
def f277(a1:Int)(a2:Int)(a3:Int)(a4:Int)(a5:Int)(a6:bq)(a7:List aa):Option ((List aa)):=((De a1 a2 a3 a7).bind fun z9=>((gz (decide (z9.1.length=a7.length))).bind fun cO=>((iJ a4 z9.2.2).bind fun m11=>((z9.1[(z9.2.1+m11)]?).bind fun z12=>((some (z9.1.set (z9.2.1+m11) (aa.mk a5 a6))).bind fun fu=>((f146 a5).bind fun wT=>(bif (decide (wT=2)) then none else ((f170 z9.2.1 z9.2.2 fu).bind fun fV=>((gz (decide (fV.length=fu.length))).bind fun f_=>(some fV))))))))))
theorem aq0(d:Nat)(hd:5≤d)(a1:Int)(a2:Int)(a3:Int)(a4:Int)(a5:Int)(a6:bq)(a7:List aa)(r:(List aa))(hS:f277 a1 a2 a3 a4 a5 a6 a7=some r):cg az bE d 277 [(.agg ((dI a1)::((dI a2)::((.r (.aI 0 0 0 a7.length)):: [])))),(dI a3),(dI a4),(dI a5),(lT a6)] [(.own 100 4 (ag.cells a7))]=some ((.bZ []),[(.own 100 4 (ag.cells r)),.box []]):=by
 refine dN hd (fun Q hQ=>?_) agD
 unfold f277 at hS
 show ZR _ Q adl [] _
 replace hQ:FQ (avr r) Q:=hQ
 refine zS (zL 2 2 (zK (zS (zL 2 2 ?_))))
 refine ak hS (fun z9 zx hS=>ak hS (fun cO jn hS=>zO (some 13) 3 (.er 38 [(tm 11),(tm 12)]) (pH [0] [(.own 100 4 (ag.cells a7))] (Hs (d-1) (bO hd rfl) a1 a2 a3 a7 z9 zx) (jU ag (e1:=100) (k1:=4) (xs:=a7) (ys:=z9.1) (by kernel_rfl) jn nr)) ?_))
 have aq1:a7.length=z9.1.length:=(of_decide_eq_true (gT jn)).symm
 skip
 try delta cM
 try rw [aq1]
 refine zL 1 4 (zK (zS (zL 5 5 ?_)))
 refine ak hS (fun m11 aBq hS=>zO (v:=(.r (.ptr 0 0 ((z9.2.1+m11)*4)))) (aH:= []) (some 19) 6 (.fQ 100 4 (tm 14) (tm 15)) (iK (kk:= .i64) (b:=0) (g:=0) (l:=z9.2.1) (n:=z9.2.2) (j:=a4) (cs:=ag.cells z9.1) (by kernel_rfl) (by kernel_rfl) (by kernel_rfl) aBq) (ak hS (fun z12 iz hS=>ak hS (fun fu lO hS=>zO (v:= .un) (aH:= [(0,⟨0,some (.own 100 4 (ag.cells (z9.1.set (z9.2.1+m11) (aa.mk a5 a6))))⟩)]) none 7 (.store 4 (tm 19) (tm 18)) (nW ag (b:=0) (g:=0) (o:=(z9.2.1+m11)*4) (e:=100) (k:=4) (m:=(z9.2.1+m11)) (fo:=0) (xs:=z9.1) (z:=z12) (z':=(aa.mk a5 a6)) (by kernel_rfl) (new:=((dI a5)::((dI a6.Flags)::((dI a6.cz)::((dI a6.b9):: []))))) (ds:= [.int .i64 a5,.int .i64 a6.Flags,.int .i64 a6.cz,.int .i64 a6.b9]) (by kernel_rfl) (by kernel_rfl) (by kernel_rfl) rfl iz (by kernel_rfl) (by kernel_rfl) (by kernel_rfl)) ?_))))
 have awU:=Option.some.inj lO
 have aBr:z9.1.length=fu.length:=by rw [←awU,List.length_set]
 rw [awU]
 skip
 try delta cM
 try rw [aBr]
 refine zK (ay (zS (zL 1 1 ?_)))
 refine ak hS (fun wT Mf hS=>zO (some 21) 2 (c1 146 20) (aW (zC (d-1) (bO hd rfl) a5 wT Mf)) (sB 22 3 (ck 21 2) hS (fun hS=>?_) (fun hS=>?_)))
 ·cases hS
 ·refine zK (zF ?_)
  refine aJ (aq (aN (zL 1 1 ?_)))
  refine ak hS (fun fV qL hS=>ak hS (fun f_ nM hS=>zO (some 30) 2 (.er 170 [(tm 29)]) (pH [0] [(.own 100 4 (ag.cells fu))] (aqZ (d-1) (bO hd rfl) z9.2.1 z9.2.2 fu fV qL) (jU ag (e1:=100) (k1:=4) (xs:=fu) (ys:=fV) (by kernel_rfl) nM nr)) ?_))
  have aBs:fu.length=fV.length:=(of_decide_eq_true (gT nM)).symm
  skip
  try delta cM
  try rw [aBs]
  exact zE (au (aM hS hQ (I4 (by kernel_rfl) (by kernel_rfl:dZ Pj.fin _=PG fV) (by kernel_rfl) (aii fV))))
/- (*farwriter/screen.terminal).print -/
def aij(p7:aB):St:=⟨(up (up (up u0 1000003 .un) 1000002 .un) 1000001 .un),(mV p7)⟩
theorem PI(p7:aB):bA (aij p7) 4 U5.res=some ((.bZ []),[(js p7),(bP p7.af),(bU p7.af),(cA p7.af)]):=by
 kernel_rfl
def A2(r:aB)(e:PX)(st:St):Prop:=bh U5 4 ((.bZ []),[(js r),(bP r.af),(bU r.af),(cA r.af)]) e st
def My(a1:Int)(a2:aB)(fA:aB)(lz:Int)(lH:Int):St:=⟨(up (up (up (abN a2.af) 4 (dI lH)) 1 (dI lz)) 0 (pt 0)),(mV fA)⟩
def FN(a1:Int)(a2:aB)(fA:aB)(lz:Int)(lH:Int):Option (aB):=((f277 fA.af.aT.bV fA.af.aT.cC fA.af.Row fA.af.dS lz fA.af.bM fA.af.aT.Cells).bind fun z26=>((gz (decide (z26.length=fA.af.aT.Cells.length))).bind fun j4=>(bif (decide ((IntKind.i64.wrap (a2.af.aT.bV-1))<(IntKind.i64.wrap (fA.af.dS+lH)))) then ((f274 (aB.mk ({fA.af with aT:=(aV.mk fA.af.aT.bV fA.af.aT.cC z26),dS:=(IntKind.i64.wrap (fA.af.dS+lH))}) fA.sent) [] 4).bind fun z28=>(some (aB.mk ({fA.af with aT:=(aV.mk fA.af.aT.bV fA.af.aT.cC z26),dS:=(IntKind.i64.wrap (a2.af.aT.bV-1)),eL:=z28}) fA.sent))) else (some (aB.mk ({fA.af with aT:=(aV.mk fA.af.aT.bV fA.af.aT.cC z26),dS:=(IntKind.i64.wrap (fA.af.dS+lH))}) fA.sent)))))
theorem V_(hd:9≤d)(a1:Int)(a2:aB){r:aB}(hQ:FQ (A2 r) Q)(fA:aB)(lz:Int)(lH:Int)(hS:FN a1 a2 fA lz lH=some r)(he:aA [0,1,4,5,1000001,1000002,1000003] [(0,.id 0),(1,.id 1),(2,.id 2),(3,.id 3)] [] st=My a1 a2 fA lz lH):ZX d Q adm [] st:=by
 refine aC he ?_
 unfold FN at hS
 refine ay (ez (dx 21 21 (ak hS (fun z26 nt hS=>ak hS (fun j4 sD hS=>eT (some 125) 22 none (.er 277 [(tm 108),(tm 113),(tm 118),(tm 119),(tm 124)]) (pH [1] [(bP fA.af)] (aq0 (d-1) (bO hd rfl) fA.af.aT.bV fA.af.aT.cC fA.af.Row fA.af.dS lz fA.af.bM fA.af.aT.Cells z26 nt) (jU ag (e1:=100) (k1:=4) (xs:=fA.af.aT.Cells) (ys:=z26) (by kernel_rfl) sD nr)) ?_)))))
 have aBt:fA.af.aT.Cells.length=z26.length:=(of_decide_eq_true (gT sD)).symm
 try delta My
 try delta jq pN mV js jW lU lF kI
 try delta cM
 try rw [aBt]
 refine iC (aq (zS (zL 11 11 (zK (zS (zL 6 6 ?_))))))
 refine sB 142 7 (.a_ .gtr (tm 140) (tm 141)) hS (fun hS=>?_) (fun hS=>?_)
 ·refine zK (zT (aN (zL 4 4 ?_)))
  refine ak hS (fun z28 Vp hS=>zO (some 147) 5 (.call 274 [(tm 146),(ki 4)]) (aW (FI (d-1) (bO hd rfl) (aB.mk ({fA.af with aT:=(aV.mk fA.af.aT.bV fA.af.aT.cC z26),dS:=(IntKind.i64.wrap (fA.af.dS+lH))}) fA.sent) [] 4 z28 Vp)) (zL 8 13 (zE ?_)))
  exact au (aM hS hQ (fN (PI (aB.mk ({fA.af with aT:=(aV.mk fA.af.aT.bV fA.af.aT.cC z26),dS:=(IntKind.i64.wrap (a2.af.aT.bV-1)),eL:=z28}) fA.sent))))
 ·refine zK (zF ?_)
  exact aJ (au (aM hS hQ (fN (PI (aB.mk ({fA.af with aT:=(aV.mk fA.af.aT.bV fA.af.aT.cC z26),dS:=(IntKind.i64.wrap (fA.af.dS+lH))}) fA.sent)))))
def ZT(a1:Int)(a2:aB)(eP:aB)(jz:Int)(jJ:Int):St:=⟨(up (up (up (abN a2.af) 4 (dI jJ)) 1 (dI jz)) 0 (pt 0)),(mV eP)⟩
def FO(a1:Int)(a2:aB)(eP:aB)(jz:Int)(jJ:Int):Option (aB):=((f274 eP [] 1).bind fun mj=>(bif mj then ((f276 eP []).bind fun jS=>none) else (FN a1 a2 eP jz jJ)))
theorem Wa(hd:9≤d)(a1:Int)(a2:aB){r:aB}(hQ:FQ (A2 r) Q)(eP:aB)(jz:Int)(jJ:Int)(hS:FO a1 a2 eP jz jJ=some r)(he:aA [0,1,4,5,1000001,1000002,1000003] [(0,.id 0),(1,.id 1),(2,.id 2),(3,.id 3)] [] st=ZT a1 a2 eP jz jJ):ZX d Q adn [] st:=by
 refine aC he ?_
 unfold FO at hS
 refine ay (zS (zL 1 1 ?_))
 refine ak hS (fun mj yX hS=>zO (some 78) 2 (.call 274 [(tm 77),(ki 1)]) (aW (FI (d-1) (bO hd rfl) eP [] 1 mj yX)) (zK ?_))
 refine sR 78 hS (fun hS=>?_) (fun hS=>?_)
 ·refine zT (ez (dx 23 23 (ak hS (fun jS yY hS=>eT (some 102) 24 none (c1 276 101) (aW (V3 (d-1) (bO hd rfl) eP [] jS yY)) ?_))))
  cases hS
 ·exact zF (aJ (aq (V_ hd a1 a2 hQ eP jz jJ hS (by kernel_rfl))))
def ZU(a1:Int)(a2:aB)(ir:aB)(j0:Int)(dW:Int):St:=⟨(up (up (up (abN a2.af) 4 (dI dW)) 1 (dI j0)) 0 (pt 0)),(mV ir)⟩
def vt(a1:Int)(a2:aB)(ir:aB)(j0:Int)(dW:Int):Option (aB):=(bif (decide (dW=2)) then none else (FO a1 a2 ir j0 dW))
theorem Iw(hd:9≤d)(a1:Int)(a2:aB){r:aB}(hQ:FQ (A2 r) Q)(ir:aB)(j0:Int)(dW:Int)(hS:vt a1 a2 ir j0 dW=some r)(he:aA [0,1,4,5,1000001,1000002,1000003] [(0,.id 0),(1,.id 1),(2,.id 2),(3,.id 3)] [] st=ZU a1 a2 ir j0 dW):ZX d Q ado [] st:=by
 refine aC he ?_
 unfold vt at hS
 refine ay (zS (zL 1 1 ?_))
 refine sB 60 2 (ck 59 2) hS (fun hS=>?_) (fun hS=>?_)
 ·cases hS
 ·refine zL 9 11 (zK (zF ?_))
  exact aJ (aq (Wa hd a1 a2 hQ ir j0 dW hS (by kernel_rfl)))
def xd(a1:Int)(a2:aB)(jt:Int)(iy:Int):St:=⟨(up (up (up (abN a2.af) 4 (dI iy)) 1 (dI jt)) 0 (pt 0)),(mV a2)⟩
def FP(a1:Int)(a2:aB)(jt:Int)(iy:Int):Option (aB):=(bif a2.af.eL then ((f272 0 a2).bind fun z31=>((gz (decide (z31.af.cD.length=a2.af.cD.length))).bind fun sg=>((gz (decide (z31.af.bT.Cells.length=a2.af.bT.Cells.length))).bind fun z33=>((gz (decide (z31.af.aT.Cells.length=a2.af.aT.Cells.length))).bind fun Fj=>((f273 z31).bind fun tX=>(vt a1 a2 tX jt iy)))))) else (vt a1 a2 a2 jt iy))
theorem Wb(hd:9≤d)(a1:Int)(a2:aB){r:aB}(hQ:FQ (A2 r) Q)(jt:Int)(iy:Int)(hS:FP a1 a2 jt iy=some r)(he:aA [0,1,4,5,1000001,1000002,1000003] [(0,.id 0),(1,.id 1),(2,.id 2),(3,.id 3)] [] st=xd a1 a2 jt iy):ZX d Q adp [] st:=by
 refine aC he ?_
 unfold FP at hS
 refine ay (zS (zL 5 5 (zK ?_)))
 refine sR 54 hS (fun hS=>?_) (fun hS=>?_)
 ·refine zT (zS (zL 1 1 ?_))
  refine ak hS (fun z31 Ep hS=>ak hS (fun sg Im hS=>ak hS (fun z33 Pr hS=>ak hS (fun Fj Io hS=>zO (some 56) 2 (.er 272 [(tm 55),(ki 0)]) (pH [0,1,2,3] [(.box (lS a2 (.r (.aI 1 1 0 a2.af.aT.Cells.length)) (.r (.aI 2 1 0 a2.af.bT.Cells.length)) (.r (.aI 3 1 0 a2.af.cD.length)))),(bP a2.af),(bU a2.af),(cA a2.af)] (V2 (d-1) (bO hd rfl) 0 a2 z31 Ep) (I9 (cs:=(lU a2)) (by kernel_rfl) (jU ag (e1:=100) (k1:=4) (xs:=a2.af.aT.Cells) (ys:=z31.af.aT.Cells) (by kernel_rfl) Io (jU ag (e1:=100) (k1:=4) (xs:=a2.af.bT.Cells) (ys:=z31.af.bT.Cells) (by kernel_rfl) Pr (jU bJ (e1:=91) (k1:=1) (xs:=a2.af.cD) (ys:=z31.af.cD) (by kernel_rfl) Im nr))))) ?_))))
  have aBu:a2.af.cD.length=z31.af.cD.length:=(of_decide_eq_true (gT Im)).symm
  try delta xd
  try delta jq pN mV js jW lU lF kI
  try delta cM
  try rw [aBu]
  have aBv:a2.af.bT.Cells.length=z31.af.bT.Cells.length:=(of_decide_eq_true (gT Pr)).symm
  try delta xd
  try delta jq pN mV js jW lU lF kI
  try delta cM
  try rw [aBv]
  have aBw:a2.af.aT.Cells.length=z31.af.aT.Cells.length:=(of_decide_eq_true (gT Io)).symm
  try delta xd
  try delta jq pN mV js jW lU lF kI
  try delta cM
  try rw [aBw]
  refine zK (aN (zL 1 1 ?_))
  refine ak hS (fun tX Me hS=>zO (some 58) 2 (.er 273 [(tm 57)]) (mg [0,1,2,3] (V8 (d-1) (bO hd rfl) z31 tX Me)) (zK ?_))
  exact Iw hd a1 a2 hQ tX jt iy hS (by kernel_rfl)
 ·exact zF (aJ (aq (Iw hd a1 a2 hQ a2 jt iy hS (by kernel_rfl))))
def ZV(a1:Int)(a2:aB)(p9:Int):St:=⟨(up (up (up (up (up u0 1000003 .un) 1000002 .un) 1000001 .un) 1 (dI p9)) 0 (pt 0)),(mV a2)⟩
def z_(a1:Int)(a2:aB)(p9:Int):Option (aB):=((f146 p9).bind fun gA=>(bif (decide (gA=0)) then none else (bif (decide (a2.af.aT.bV<gA)) then none else (FP a1 a2 p9 gA))))
theorem Ix(hd:9≤d)(a1:Int)(a2:aB){r:aB}(hQ:FQ (A2 r) Q)(p9:Int)(hS:z_ a1 a2 p9=some r)(he:aA [0,1,1000001,1000002,1000003] [(0,.id 0),(1,.id 1),(2,.id 2),(3,.id 3)] [] st=ZV a1 a2 p9):ZX d Q adq [] st:=by
 refine aC he ?_
 unfold z_ at hS
 refine ay (ez (dx 1 1 (ak hS (fun gA qM hS=>eT (some 30) 2 none (c1 146 29) (aW (zC (d-1) (bO hd rfl) p9 gA qM)) (dx 9 11 (iC (aq (ay (zS (zL 1 1 ?_))))))))))
 refine sB 39 2 (ck 38 0) hS (fun hS=>?_) (fun hS=>?_)
 ·cases hS
 ·refine zL 8 10 (sH 48 11 40 false (.a_ .gtr (tm 41) (tm 47)) hS (fun hS=>?_) (fun hS=>?_))
  ·cases hS
  ·refine zL 1 12 (zK (zF ?_))
   exact aJ (aq (Wb hd a1 a2 hQ p9 gA hS (by kernel_rfl)))
def f246(a1:Int)(a2:aB):Option (aB):=(bif (decide (0≤a1)) then (bif (decide (a1≤127)) then ((iJ a2.af.dF 2).bind fun m36=>(bif (decide (m36=0)) then ((f271 a2.af.bY.1 (u8 a1)).bind fun z37=>(z_ a1 a2 z37.1)) else ((f271 a2.af.bY.2 (u8 a1)).bind fun IP=>(z_ a1 a2 IP.1)))) else none) else none)
theorem aq3(d:Nat)(hd:9≤d)(a1:Int)(a2:aB)(r:aB)(hS:f246 a1 a2=some r):cg az bE d 246 [(pt 0),(dI a1)] [(js a2),(bP a2.af),(bU a2.af),(cA a2.af)]=some ((.bZ []),[(js r),(bP r.af),(bU r.af),(cA r.af)]):=by
 refine dN hd (fun Q hQ=>?_) agv
 unfold f246 at hS
 show ZR _ Q adr [] _
 replace hQ:FQ (A2 r) Q:=hQ
 refine ay (zS (zL 1 1 ?_))
 refine sB 7 2 (.a_ .geq (tm 6) (ki 0)) hS (fun hS=>?_) (fun hS=>?_)
 ·refine zL 2 4 (sH 10 5 8 true (.a_ .leq (tm 9) (ki 127)) hS (fun hS=>?_) (fun hS=>?_))
  ·refine zL 1 6 (zK (zT ?_))
   refine ez (dx 9 9 (ak hS (fun m36 awV hS=>akh (decide (m36=0)) (fun Mz=>?_) (fun Mz=>?_))))
   ·replace hS:=kX Mz hS
    exact eT (v:=(.r (.ptr 0 0 16))) (aH:= []) (some 22) 10 none (.xZ 2 1 (tm 21) (tm 18)) (Tv (kk:= .i64) (b:=0) (g:=0) (o:=16) (j:=a2.af.dF) (m:=m36) (by kernel_rfl) (by kernel_rfl) awV Mz) (dx 2 12 (eT (v:=(.d (.int .u8 ((u8 a1).toNat:Int)))) (aH:= []) (some 25) 13 none (.xY .u8 (tm 24)) (yD (kk:= .i64) (a:=a1) (by kernel_rfl) (Ty _)) (ak hS (fun z37 E1 hS=>eT (some 26) 14 none (.call 271 [(tm 23),(tm 25)]) (aW (V1 (d-1) (bO hd rfl) a2.af.bY.1 (u8 a1) z37 E1)) (dx 4 18 (iC (aq (Ix hd a1 a2 hQ z37.1 hS (by kernel_rfl)))))))))
   ·replace hS:=kY Mz hS
    exact eT (v:=(.r (.ptr 0 0 17))) (aH:= []) (some 22) 10 none (.xZ 2 1 (tm 21) (tm 18)) (Tw (kk:= .i64) (b:=0) (g:=0) (o:=16) (j:=a2.af.dF) (m:=m36) (by kernel_rfl) (by kernel_rfl) awV Mz) (dx 2 12 (eT (v:=(.d (.int .u8 ((u8 a1).toNat:Int)))) (aH:= []) (some 25) 13 none (.xY .u8 (tm 24)) (yD (kk:= .i64) (a:=a1) (by kernel_rfl) (Ty _)) (ak hS (fun IP Ij hS=>eT (some 26) 14 none (.call 271 [(tm 23),(tm 25)]) (aW (V1 (d-1) (bO hd rfl) a2.af.bY.2 (u8 a1) IP Ij)) (dx 4 18 (iC (aq (Ix hd a1 a2 hQ IP.1 hS (by kernel_rfl)))))))))
  ·cases hS
 ·cases hS
/- (*farwriter/screen.terminal).control -/
def aik(p4:aB):St:=⟨(up (up (up u0 1000003 .un) 1000002 .un) 1000001 .un),(mV p4)⟩
theorem Ht(p4:aB):bA (aik p4) 4 U6.res=some ((.bZ []),[(js p4),(bP p4.af),(bU p4.af),(cA p4.af)]):=by
 kernel_rfl
def aeg(r:aB)(e:PX)(st:St):Prop:=bh U6 4 ((.bZ []),[(js r),(bP r.af),(bU r.af),(cA r.af)]) e st
def xe(a1:Int)(a2:aB)(p7:Bool):St:=⟨(up (up (up (up (up (up u0 1000003 .un) 1000002 .un) 1000001 .un) 42 (dB p7)) 6 (dI a1)) 0 (pt 0)),(mV a2)⟩
def Aa(a1:Int)(a2:aB)(p7:Bool):Option (aB):=(bif p7 then ((f273 a2).bind fun z7=>((f274 z7 [] 128).bind fun z8=>(bif z8 then none else (some z7)))) else (bif (decide (a1=13)) then ((f272 0 a2).bind fun z9=>((gz (decide (z9.af.cD.length=a2.af.cD.length))).bind fun cO=>((gz (decide (z9.af.bT.Cells.length=a2.af.bT.Cells.length))).bind fun eJ=>((gz (decide (z9.af.aT.Cells.length=a2.af.aT.Cells.length))).bind fun z12=>(some z9))))) else (bif (decide (a1=14)) then none else (bif (decide (a1=15)) then none else (some a2)))))
theorem Iy(hd:9≤d)(a1:Int)(a2:aB){r:aB}(hQ:FQ (aeg r) Q)(p7:Bool)(hS:Aa a1 a2 p7=some r)(he:aA [0,6,42,1000001,1000002,1000003] [(0,.id 0),(1,.id 1),(2,.id 2),(3,.id 3)] [] st=xe a1 a2 p7):ZX d Q ads [.blk 0] st:=by
 refine aC he ?_
 unfold Aa at hS
 refine sR 42 hS (fun hS=>?_) (fun hS=>?_)
 ·refine zT (zS (zL 1 1 ?_))
  refine ak hS (fun z7 tW hS=>zO (some 47) 2 (.er 273 [(tm 46)]) (mg [0,1,2,3] (V8 (d-1) (bO hd rfl) a2 z7 tW)) (zK (zS (zL 1 1 ?_))))
  refine ak hS (fun z8 wC hS=>zO (some 49) 2 (.call 274 [(tm 48),(ki 128)]) (aW (FI (d-1) (bO hd rfl) z7 [] 128 z8 wC)) (zK ?_))
  refine sR 49 hS (fun hS=>?_) (fun hS=>?_)
  ·refine zT (aN (zL 1 1 ?_))
   cases hS
  ·exact zF (aJ (cq (au (aM hS hQ (fN (Ht z7))))))
 ·refine zF (zS ?_)
  refine sB 53 1 (ck 6 13) hS (fun hS=>?_) (fun hS=>?_)
  ·refine zL 1 2 (zK (zT (aN (zL 1 1 ?_))))
   refine ak hS (fun z9 zx hS=>ak hS (fun cO jn hS=>ak hS (fun eJ mF hS=>ak hS (fun z12 iz hS=>zO (some 55) 2 (.er 272 [(tm 54),(ki 0)]) (pH [0,1,2,3] [(.box (lS a2 (.r (.aI 1 1 0 a2.af.aT.Cells.length)) (.r (.aI 2 1 0 a2.af.bT.Cells.length)) (.r (.aI 3 1 0 a2.af.cD.length)))),(bP a2.af),(bU a2.af),(cA a2.af)] (V2 (d-1) (bO hd rfl) 0 a2 z9 zx) (I9 (cs:=(lU a2)) (by kernel_rfl) (jU ag (e1:=100) (k1:=4) (xs:=a2.af.aT.Cells) (ys:=z9.af.aT.Cells) (by kernel_rfl) iz (jU ag (e1:=100) (k1:=4) (xs:=a2.af.bT.Cells) (ys:=z9.af.bT.Cells) (by kernel_rfl) mF (jU bJ (e1:=91) (k1:=1) (xs:=a2.af.cD) (ys:=z9.af.cD) (by kernel_rfl) jn nr))))) ?_))))
   have aq1:a2.af.cD.length=z9.af.cD.length:=(of_decide_eq_true (gT jn)).symm
   try delta xe
   try delta jq pN mV js jW lU lF kI
   try delta cM
   try rw [aq1]
   have aBx:a2.af.bT.Cells.length=z9.af.bT.Cells.length:=(of_decide_eq_true (gT mF)).symm
   try delta xe
   try delta jq pN mV js jW lU lF kI
   try delta cM
   try rw [aBx]
   have aBy:a2.af.aT.Cells.length=z9.af.aT.Cells.length:=(of_decide_eq_true (gT iz)).symm
   try delta xe
   try delta jq pN mV js jW lU lF kI
   try delta cM
   try rw [aBy]
   exact zE (cq (au (aM hS hQ (fN (Ht z9)))))
  ·refine zL 1 2 (zK (zF (zS ?_)))
   refine sB 57 1 (ck 6 14) hS (fun hS=>?_) (fun hS=>?_)
   ·cases hS
   ·refine zL 1 2 (zK (zF (zS ?_)))
    refine sB 63 1 (ck 6 15) hS (fun hS=>?_) (fun hS=>?_)
    ·cases hS
    ·refine zL 1 2 (zK (zF ?_))
     exact aJ (cq (au (aM hS hQ (fN (Ht a2)))))
def f247(a1:Int)(a2:aB):Option (aB):=(bif (decide (a1=8)) then none else (bif (decide (a1=9)) then none else (bif (decide (a1=10)) then (Aa a1 a2 true) else (bif (decide (a1=11)) then none else (bif (decide (a1=12)) then none else (Aa a1 a2 false))))))
theorem aq4(d:Nat)(hd:9≤d)(a1:Int)(a2:aB)(r:aB)(hS:f247 a1 a2=some r):cg az bE d 247 [(pt 0),(dI a1)] [(js a2),(bP a2.af),(bU a2.af),(cA a2.af)]=some ((.bZ []),[(js r),(bP r.af),(bU r.af),(cA r.af)]):=by
 refine dN hd (fun Q hQ=>?_) agw
 unfold f247 at hS
 show ZR _ Q adt [] _
 replace hQ:FQ (aeg r) Q:=hQ
 refine zS (zL 1 1 (zK ?_))
 refine bF (zS ?_)
 refine sB 8 1 (ck 6 8) hS (fun hS=>?_) (fun hS=>?_)
 ·cases hS
 ·refine zL 1 2 (zK (zF (zS ?_)))
  refine sB 18 1 (ck 6 9) hS (fun hS=>?_) (fun hS=>?_)
  ·cases hS
  ·refine zL 1 2 (zK (zF (ay (zS ?_))))
   refine sB 43 1 (ck 6 10) hS (fun hS=>?_) (fun hS=>?_)
   ·refine zL 1 2 (zK (zT ?_))
    exact aJ (aq (Iy hd a1 a2 hQ true hS (by kernel_rfl)))
   ·refine zL 1 2 (zK (zF (zS ?_)))
    refine sB 44 1 (ck 6 11) hS (fun hS=>?_) (fun hS=>?_)
    ·cases hS
    ·refine zL 1 2 (zK (zF (aN ?_)))
     refine sB 45 1 (ck 6 12) hS (fun hS=>?_) (fun hS=>?_)
     ·cases hS
     ·refine zL 1 2 (zK ?_)
      exact Iy hd a1 a2 hQ false hS (by kernel_rfl)
/- (*farwriter/screen.terminal).act -/
def ail(p2:aB):St:=⟨(up (up (up u0 1000003 .un) 1000002 .un) 1000001 .un),(mV p2)⟩
theorem PJ(p2:aB):bA (ail p2) 4 U7.res=some ((.bZ []),[(js p2),(bP p2.af),(bU p2.af),(cA p2.af)]):=by
 kernel_rfl
def avs(r:aB)(e:PX)(st:St):Prop:=bh U7 4 ((.bZ []),[(js r),(bP r.af),(bU r.af),(cA r.af)]) e st
def f210(a1:aP)(a2:aB):Option (aB):=(bif (decide (a1.Kind=1)) then ((f246 a1.Code a2).bind fun z3=>(some z3)) else (bif (decide (a1.Kind=2)) then ((f247 a1.Code a2).bind fun z4=>(some z4)) else none))
theorem aq5(d:Nat)(hd:10≤d)(a1:aP)(a2:aB)(r:aB)(hS:f210 a1 a2=some r):cg az bE d 210 [(pt 0),(O_ a1)] [(js a2),(bP a2.af),(bU a2.af),(cA a2.af)]=some ((.bZ []),[(js r),(bP r.af),(bU r.af),(cA r.af)]):=by
 refine dN hd (fun Q hQ=>?_) agq
 unfold f210 at hS
 show ZR _ Q adu [] _
 replace hQ:FQ (avs r) Q:=hQ
 refine zS (zL 1 1 (zK ?_))
 refine bF (zS (zL 2 2 ?_))
 refine sB 7 3 (ck 6 1) hS (fun hS=>?_) (fun hS=>?_)
 ·refine zL 1 4 (zK (zT (aN (zL 3 3 ?_))))
  exact ak hS (fun z3 hz3 hS=>zO (some 11) 4 (.er 246 [(tm 8),(tm 10)]) (mg [0,1,2,3] (aq3 (d-1) (bO hd rfl) a1.Code a2 z3 hz3)) (zE (cq (au (aM hS hQ (fN (PJ z3)))))))
 ·refine zL 1 4 (zK (zF (zS (zL 2 2 ?_))))
  refine sB 15 3 (ck 14 2) hS (fun hS=>?_) (fun hS=>?_)
  ·refine zL 1 4 (zK (zT (aN (zL 3 3 ?_))))
   exact ak hS (fun z4 jR hS=>zO (some 19) 4 (.er 247 [(tm 16),(tm 18)]) (mg [0,1,2,3] (aq4 (d-1) (bO hd rfl) a1.Code a2 z4 jR)) (zE (cq (au (aM hS hQ (fN (PJ z4)))))))
  ·cases hS
end
end Go.Proofs.YtobkkblijfhpoaaGreatDoor.Pm
