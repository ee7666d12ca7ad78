/- Typed functions, and that the codes are these. Printed by dec.py. -/
import Derived.Test.YtobkkblijfhpoaaGreatDoorDCpC
namespace Go.Proofs.YtobkkblijfhpoaaGreatDoor.Pm
noncomputable section
set_option maxRecDepth 1000000
set_option maxHeartbeats 20000000
set_option linter.unusedVariables false
set_option linter.unusedSimpArgs false
variable {d : Nat} {Q : PQ} {st : St}
/- farwriter/grid.size -/
def apq(p2:Int):St:=⟨(up u0 4 (dI p2)),h0⟩
theorem zo(p2:Int):bA (apq p2) 0 c89.res=some ((dI p2),[]):=by
 kernel_rfl
def ayC(r:Int)(e:PX)(st:St):Prop:=bh c89 0 ((dI r),[]) e st
def f89(a1:Int)(a2:Int):Option (Int):=(bif (decide (a1<1)) then (some 1) else (bif (decide (160<a1)) then (some 1) else (bif (decide (a2<1)) then (some 1) else (bif (decide (60<a2)) then (some 1) else (some 0)))))
theorem adT(d:Nat)(hd:1≤d)(a1:Int)(a2:Int)(r:Int)(hS:f89 a1 a2=some r):cg az bE d 89 [(dI a1),(dI a2)] []=some ((dI r),[]):=by
 refine dN hd (fun Q hQ=>?_) apf
 unfold f89 at hS
 show ZR _ Q ali [] _
 replace hQ:FQ (ayC r) Q:=hQ
 refine zS (zL 1 1 (zK (ay (zS (zL 1 1 ?_)))))
 refine sB 6 2 (.a_ .lss (tm 5) (ki 1)) hS (fun hS=>?_) (fun hS=>?_)
 ·refine zL 12 14 (zK (zT (zS (zL 1 1 (zK ?_)))))
  exact aG (bD (au (aM hS hQ (fR (zo 1)))))
 ·refine zL 2 4 (sH 9 5 7 false (.a_ .gtr (tm 8) (ki 160)) hS (fun hS=>?_) (fun hS=>?_))
  ·refine zL 9 14 (zK (zT (zS (zL 1 1 (zK ?_)))))
   exact aG (bD (au (aM hS hQ (fR (zo 1)))))
  ·refine zL 3 8 (sH 13 9 11 false (.a_ .lss (tm 12) (ki 1)) hS (fun hS=>?_) (fun hS=>?_))
   ·refine zL 5 14 (zK (zT (zS (zL 1 1 (zK ?_)))))
    exact aG (bD (au (aM hS hQ (fR (zo 1)))))
   ·refine zL 3 12 (sH 17 13 15 false (.a_ .gtr (tm 16) (ki 60)) hS (fun hS=>?_) (fun hS=>?_))
    ·refine zL 1 14 (zK (zT (zS (zL 1 1 (zK ?_)))))
     exact aG (bD (au (aM hS hQ (fR (zo 1)))))
    ·refine zL 1 14 (zK (zF ?_))
     refine aJ (aq (zS (zL 1 1 (zK ?_))))
     exact aG (au (aM hS hQ (fR (zo 0))))
/- farwriter/pen.color -/
def agK(p6:Bool):St:=⟨(up u0 2 (dB p6)),h0⟩
theorem og(p6:Bool):bA (agK p6) 0 Uw.res=some ((dB p6),[]):=by
 kernel_rfl
def auK(r:Bool)(e:PX)(st:St):Prop:=bh Uw 0 ((dB r),[]) e st
def f148(a1:Int):Option (Bool):=(bif (decide (0≤a1)) then (bif (decide (a1≤256)) then (some true) else (bif (decide (16777216≤a1)) then (bif (decide (a1<33554432)) then (some true) else (some false)) else (some false))) else (bif (decide (16777216≤a1)) then (bif (decide (a1<33554432)) then (some true) else (some false)) else (some false)))
theorem Vf(d:Nat)(hd:1≤d)(a1:Int)(r:Bool)(hS:f148 a1=some r):cg az bE d 148 [(dI a1)] []=some ((dB r),[]):=by
 refine dN hd (fun Q hQ=>?_) af9
 unfold f148 at hS
 show ZR _ Q abP [] _
 replace hQ:FQ (auK r) Q:=hQ
 refine zS (zL 1 1 (zK (zS (zL 1 1 ?_))))
 refine sB 4 2 (.a_ .geq (tm 3) (ki 0)) hS (fun hS=>?_) (fun hS=>?_)
 ·refine zL 2 4 (sH 7 5 5 true (.a_ .leq (tm 6) (ki 256)) hS (fun hS=>?_) (fun hS=>?_))
  ·refine zL 10 15 (zK ?_)
   exact aG (au (aM hS hQ (fR (og true))))
  ·refine zL 3 8 (sH 11 9 9 false (.a_ .geq (tm 10) (ki 16777216)) hS (fun hS=>?_) (fun hS=>?_))
   ·refine zL 2 11 (sH 14 12 12 true (.a_ .lss (tm 13) (ki 33554432)) hS (fun hS=>?_) (fun hS=>?_))
    ·refine zL 3 15 (zK ?_)
     exact aG (au (aM hS hQ (fR (og true))))
    ·refine zL 3 15 (zK ?_)
     exact aG (au (aM hS hQ (fR (og false))))
   ·refine zL 6 15 (zK ?_)
    exact aG (au (aM hS hQ (fR (og false))))
 ·refine zL 6 8 (sH 11 9 9 false (.a_ .geq (tm 10) (ki 16777216)) hS (fun hS=>?_) (fun hS=>?_))
  ·refine zL 2 11 (sH 14 12 12 true (.a_ .lss (tm 13) (ki 33554432)) hS (fun hS=>?_) (fun hS=>?_))
   ·refine zL 3 15 (zK ?_)
    exact aG (au (aM hS hQ (fR (og true))))
   ·refine zL 3 15 (zK ?_)
    exact aG (au (aM hS hQ (fR (og false))))
  ·refine zL 6 15 (zK ?_)
   exact aG (au (aM hS hQ (fR (og false))))
/- farwriter/pen.Check -/
def apr(p2:Int):St:=⟨(up u0 2 (dI p2)),h0⟩
theorem zq(p2:Int):bA (apr p2) 0 c84.res=some ((dI p2),[]):=by
 kernel_rfl
def ayD(r:Int)(e:PX)(st:St):Prop:=bh c84 0 ((dI r),[]) e st
def f84(a1:bq):Option (Int):=(bif (decide (a1.Flags<0)) then (some 4) else (bif (decide (255<a1.Flags)) then (some 4) else ((f148 a1.cz).bind fun z3=>(bif (!z3) then (some 4) else ((f148 a1.b9).bind fun z4=>(bif (!z4) then (some 4) else (some 0)))))))
theorem Jg(d:Nat)(hd:2≤d)(a1:bq)(r:Int)(hS:f84 a1=some r):cg az bE d 84 [(lT a1)] []=some ((dI r),[]):=by
 refine dN hd (fun Q hQ=>?_) ape
 unfold f84 at hS
 show ZR _ Q alm [] _
 replace hQ:FQ (ayD r) Q:=hQ
 refine zS (zL 2 2 (zK (ay (zS (zL 2 2 ?_)))))
 refine sB 5 3 (.a_ .lss (tm 4) (ki 0)) hS (fun hS=>?_) (fun hS=>?_)
 ·refine zL 17 20 (zK (zT (zS (zL 1 1 (zK ?_)))))
  exact aG (bD (au (aM hS hQ (fR (zq 4)))))
 ·refine zL 3 6 (sH 9 7 6 false (.a_ .gtr (tm 8) (ki 255)) hS (fun hS=>?_) (fun hS=>?_))
  ·refine zL 13 20 (zK (zT (zS (zL 1 1 (zK ?_)))))
   exact aG (bD (au (aM hS hQ (fR (zq 4)))))
  ·refine zL 4 11 (ak hS (fun z3 hz3 hS=>zG (some 14) 12 11 false (c1 148 13) (aW (Vf (d-1) (bO hd rfl) a1.cz z3 hz3)) (zL 3 15 (sL 17 hS (fun hS=>?_) (fun hS=>?_)))))
   ·refine zL 5 20 (zK (zT (zS (zL 1 1 (zK ?_)))))
    exact aG (bD (au (aM hS hQ (fR (zq 4)))))
   ·refine zL 2 17 (ak hS (fun z4 jR hS=>zG (some 20) 18 17 false (c1 148 19) (aW (Vf (d-1) (bO hd rfl) a1.b9 z4 jR)) (zL 2 20 (zK ?_))))
    refine sR 22 hS (fun hS=>?_) (fun hS=>?_)
    ·refine zT (zS (zL 1 1 (zK ?_)))
     exact aG (bD (au (aM hS hQ (fR (zq 4)))))
    ·refine zF (aJ (aq (zS (zL 1 1 (zK ?_)))))
     exact aG (au (aM hS hQ (fR (zq 0))))
/- farwriter/grid.Blank -/
def agL(p1:aa):St:=⟨(up u0 2 (pt 24)),(up h0 24 ⟨0,some (.box (abO p1))⟩)⟩
theorem agM(p1:aa):bA (agL p1) 0 Ux.res=some ((.agg (abO p1)),[]):=by
 kernel_rfl
def auL(r:aa)(e:PX)(st:St):Prop:=bh Ux 0 ((.agg (abO r)),[]) e st
def f152(a1:bq):Option (aa):=(some (aa.mk 32 a1))
theorem aps(d:Nat)(hd:1≤d)(a1:bq)(r:aa)(hS:f152 a1=some r):cg az bE d 152 [(lT a1)] []=some ((.agg (abO r)),[]):=by
 refine dN hd (fun Q hQ=>?_) aga
 unfold f152 at hS
 show ZR _ Q abQ [] _
 replace hQ:FQ (auL r) Q:=hQ
 refine zS (zL 2 2 (zK (zS (zL 3 3 (zK ?_)))))
 exact aG (au (aM hS hQ (fR (agM (aa.mk 32 a1)))))
/- math/bits.Mul64 -/
def agN(p1:Int)(p2:Int):St:=⟨(up (up u0 5 (.d (.int .u64 p2))) 4 (.d (.int .u64 p1))),h0⟩
theorem agO(p1:Int)(p2:Int):bA (agN p1 p2) 0 Uy.res=some ((.bZ [(.d (.int .u64 p1)),(.d (.int .u64 p2))]),[]):=by
 kernel_rfl
def auM(r:Int×Int)(e:PX)(st:St):Prop:=bh Uy 0 ((.bZ [(.d (.int .u64 r.1)),(.d (.int .u64 r.2))]),[]) e st
def f236(a1:Int)(a2:Int):Option (Int×Int):=(some ((IntKind.u64.wrap ((IntKind.u64.wrap ((IntKind.u64.wrap ((Int.fdiv a1 (2^32))*(Int.fdiv a2 (2^32))))+(Int.fdiv (IntKind.u64.wrap ((IntKind.u64.wrap ((Int.fdiv a1 (2^32))*(gG .and .u64 a2 4294967295)))+(Int.fdiv (IntKind.u64.wrap ((gG .and .u64 a1 4294967295)*(gG .and .u64 a2 4294967295))) (2^32)))) (2^32))))+(Int.fdiv (IntKind.u64.wrap ((gG .and .u64 (IntKind.u64.wrap ((IntKind.u64.wrap ((Int.fdiv a1 (2^32))*(gG .and .u64 a2 4294967295)))+(Int.fdiv (IntKind.u64.wrap ((gG .and .u64 a1 4294967295)*(gG .and .u64 a2 4294967295))) (2^32)))) 4294967295)+(IntKind.u64.wrap ((gG .and .u64 a1 4294967295)*(Int.fdiv a2 (2^32)))))) (2^32)))),(IntKind.u64.wrap (a1*a2))))
theorem apt(d:Nat)(hd:1≤d)(a1:Int)(a2:Int)(r:Int×Int)(hS:f236 a1 a2=some r):cg az bE d 236 [(.d (.int .u64 a1)),(.d (.int .u64 a2))] []=some ((.bZ [(.d (.int .u64 r.1)),(.d (.int .u64 r.2))]),[]):=by
 refine dN hd (fun Q hQ=>?_) ags
 unfold f236 at hS
 show ZR _ Q abR [] _
 replace hQ:FQ (auM r) Q:=hQ
 refine zS (zL 2 2 (zK (zS (zL 3 3 (zK (zS (zL 3 3 (zK (zS (zL 3 3 (zK (zS (zL 3 3 (zK (zS (zL 4 4 (zK (zS (zL 7 7 (zK (zS (zL 3 3 (zK (zS (zL 3 3 (zK (zS (zL 6 6 (zK (zS (zL 9 9 (zK (zS (zL 4 4 (zK ?_)))))))))))))))))))))))))))))))))))
 exact aG (au (aM hS hQ (fR (agO (IntKind.u64.wrap ((IntKind.u64.wrap ((IntKind.u64.wrap ((Int.fdiv a1 (2^32))*(Int.fdiv a2 (2^32))))+(Int.fdiv (IntKind.u64.wrap ((IntKind.u64.wrap ((Int.fdiv a1 (2^32))*(gG .and .u64 a2 4294967295)))+(Int.fdiv (IntKind.u64.wrap ((gG .and .u64 a1 4294967295)*(gG .and .u64 a2 4294967295))) (2^32)))) (2^32))))+(Int.fdiv (IntKind.u64.wrap ((gG .and .u64 (IntKind.u64.wrap ((IntKind.u64.wrap ((Int.fdiv a1 (2^32))*(gG .and .u64 a2 4294967295)))+(Int.fdiv (IntKind.u64.wrap ((gG .and .u64 a1 4294967295)*(gG .and .u64 a2 4294967295))) (2^32)))) 4294967295)+(IntKind.u64.wrap ((gG .and .u64 a1 4294967295)*(Int.fdiv a2 (2^32)))))) (2^32)))) (IntKind.u64.wrap (a1*a2))))))
/- math/bits.Mul -/
def agP(p1:Int)(p2:Int):St:=⟨(up (up u0 5 (.d (.int .u64 p2))) 4 (.d (.int .u64 p1))),h0⟩
theorem agQ(p1:Int)(p2:Int):bA (agP p1 p2) 0 Uz.res=some ((.bZ [(.d (.int .u64 p1)),(.d (.int .u64 p2))]),[]):=by
 kernel_rfl
def adU(r:Int×Int)(e:PX)(st:St):Prop:=bh Uz 0 ((.bZ [(.d (.int .u64 r.1)),(.d (.int .u64 r.2))]),[]) e st
def YH(a1:Int)(a2:Int):St:=⟨(up (up u0 1 (.d (.int .u64 a2))) 0 (.d (.int .u64 a1))),h0⟩
def E0(a1:Int)(a2:Int):Option (Int×Int):=((f236 a1 a2).bind fun z2=>(some (z2.1,z2.2)))
theorem Vg(hd:2≤d)(a1:Int)(a2:Int){r:Int×Int}(hQ:FQ (adU r) Q)(hS:E0 a1 a2=some r)(he:aA [0,1] [] [] st=YH a1 a2):ZX d Q abS [] st:=by
 refine aC he ?_
 unfold E0 at hS
 refine zS (zL 2 2 ?_)
 refine ak hS (fun z2 hz2 hS=>zO (some 25) 3 (.call 236 [(tm 23),(tm 24)]) (aW (apt (d-1) (bO hd rfl) a1 a2 z2 hz2)) (zL 5 8 (zK (zS (zL 4 4 (zK ?_))))))
 exact aG (au (aM hS hQ (fR (agQ z2.1 z2.2))))
def f198(a1:Int)(a2:Int):Option (Int×Int):=(E0 a1 a2)
theorem apu(d:Nat)(hd:2≤d)(a1:Int)(a2:Int)(r:Int×Int)(hS:f198 a1 a2=some r):cg az bE d 198 [(.d (.int .u64 a1)),(.d (.int .u64 a2))] []=some ((.bZ [(.d (.int .u64 r.1)),(.d (.int .u64 r.2))]),[]):=by
 refine dN hd (fun Q hQ=>?_) agn
 unfold f198 at hS
 show ZR _ Q abT [] _
 replace hQ:FQ (adU r) Q:=hQ
 refine zS (zL 2 2 (zK (ay (zF ?_))))
 exact aJ (aq (Vg hd a1 a2 hQ hS (by kernel_rfl)))
/- slices.Repeat[[]farwriter/api.Cell,farwriter/api.Cell] -/
def agR(dW:List aa):St:=⟨(up u0 4 (.r (.aI 248 0 0 dW.length))),(up h0 248 ⟨0,some (.own 100 4 (ag.cells dW))⟩)⟩
theorem agS(dW:List aa):bA (agR dW) 0 UA.res=some ((.r (.own 0 100 4 dW.length (ag.cells dW))),[]):=by
 exact fK (ids:= []) (ids':= [248]) (l:= [(.r (.aI 248 0 0 dW.length))]) (by kernel_rfl) (by kernel_rfl) (fU ag (e:=100) (k:=4) (xs:=dW) (by kernel_rfl) rfl rfl rfl rfl)
def Q9(r:(List aa))(e:PX)(st:St):Prop:=bh UA 0 ((.r (.own 0 100 4 r.length (ag.cells r))),[]) e st
def YI(a1:List aa)(a2:Int)(x:(List aa)×Int):St:=⟨(up (up u0 8 (dI x.2)) 7 (.r (.aI 248 0 0 x.1.length))),(up h0 248 ⟨0,some (.own 100 4 (ag.cells x.1))⟩)⟩
def wz(a1:List aa)(a2:Int)(x:(List aa)×Int)(st:St):Prop:=aA [7,8] [(248,.id 248)] [] st=YI a1 a2 x
def BR(a1:List aa)(a2:Int)(iX:List aa):St:=⟨(up u0 7 (.r (.aI 248 0 0 iX.length))),(up h0 248 ⟨0,some (.own 100 4 (ag.cells iX))⟩)⟩
def C4(a1:List aa)(a2:Int)(z:((List aa)))(e:PX)(st:St):Prop:=e= .exit 0∧st=BR a1 a2 z
def BS(a1:List aa)(a2:Int)(gF:List aa)(jK:Int):St:=⟨(up (up u0 8 (dI jK)) 7 (.r (.aI 248 0 0 gF.length))),(up h0 248 ⟨0,some (.own 100 4 (ag.cells gF))⟩)⟩
def sQ(a1:List aa)(a2:Int)(gF:List aa)(jK:Int):Option (((List aa)×Int)⊕(((List aa)))):=((gz (decide (0≤jK)&&decide (jK≤(gF.length:Int))&&decide ((gF.length:Int)≤(gF.length:Int)))).bind fun z37=>((gz (decide (0≤0)&&decide (0≤jK)&&decide (jK≤(gF.length:Int)))).bind fun IP=>((kq gF 0 ((jK:Int).toNat-(0:Int).toNat)).bind fun tU=>((gz (decide (((jK:Int).toNat)+(((gF.length:Int):Int).toNat-(jK:Int).toNat)≤gF.length))).bind fun z40=>((some (nk gF ((jK:Int).toNat) (((gF.length:Int):Int).toNat-(jK:Int).toNat) tU)).bind fun Q_=>(some (.inl (Q_,(IntKind.i64.wrap (jK+((min tU.length (((Q_.length:Int):Int).toNat-(jK:Int).toNat):Nat):Int)))))))))))
theorem LM(hd:3≤d)(a1:List aa)(a2:Int){r:((List aa)×Int)⊕(((List aa)))}(hQ:FQ (bS (wz a1 a2) (C4 a1 a2) r) Q)(gF:List aa)(jK:Int)(hS:sQ a1 a2 gF jK=some r)(he:aA [7,8] [(248,.id 248)] [] st=BS a1 a2 gF jK):ZX d Q abU [] st:=by
 refine aC he ?_
 unfold sQ at hS
 refine bF (ez (dx 3 3 (ak hS (fun z37 E1 hS=>eT (v:=(.r (.aI 248 0 ((jK:Int).toNat) (((gF.length:Int):Int).toNat-(jK:Int).toNat)))) (aH:= []) (some 41) 4 none (.tD 100 4 (tm 39) (.some (tm 40)) .none) (DY (b:=248) (g:=0) (e:=100) (a:=jK) (c:=(gF.length:Int)) (l:=0) (n:=gF.length) (l':=((jK:Int).toNat)) (n':=(((gF.length:Int):Int).toNat-(jK:Int).toNat)) (cs:=ag.cells gF) (by kernel_rfl) (by kernel_rfl) (jQ _ (kk:= .i64) (j:=jK) (by kernel_rfl)) (tJ _) E1 (by simp) rfl) (dx 2 6 (ak hS (fun IP Ij hS=>eT (v:=(.r (.aI 248 0 0 ((jK:Int).toNat-(0:Int).toNat)))) (aH:= []) (some 44) 7 none (.tD 100 4 (tm 42) .none (.some (tm 43))) (DY (b:=248) (g:=0) (e:=100) (a:=0) (c:=jK) (l:=0) (n:=gF.length) (l':=0) (n':=((jK:Int).toNat-(0:Int).toNat)) (cs:=ag.cells gF) (by kernel_rfl) (by kernel_rfl) (tJ 0) (jQ _ (kk:= .i64) (j:=jK) (by kernel_rfl)) Ij (by simp) rfl) (ak hS (fun tU Ik hS=>ak hS (fun z40 adW hS=>ak hS (fun Q_ apv hS=>eT (v:=(dI ((min tU.length (((gF.length:Int):Int).toNat-(jK:Int).toNat):Nat):Int))) (aH:= [(248,⟨0,some (.own 100 4 (ag.cells (nk gF ((jK:Int).toNat) (((gF.length:Int):Int).toNat-(jK:Int).toNat) tU)))⟩)]) (some 45) 8 none (.Dt 4 (tm 41) (tm 44)) (I8 ag (b:=248) (g:=0) (l:=((jK:Int).toNat)) (n:=(((gF.length:Int):Int).toNat-(jK:Int).toNat)) (e:=100) (xs:=gF) (ys:=tU) (by kernel_rfl) (by kernel_rfl) rfl ((congrArg (gm _) (by kernel_rfl:cK _ (.tmp 44)=(.r (.aI 248 0 0 ((jK:Int).toNat-(0:Int).toNat))))).trans (akk ag (e:=100) (k:=4) (xs:=gF) (by kernel_rfl) rfl Ik)) adW) ?_)))))))))))
 have awN:=Option.some.inj apv
 have aA1:gF.length=Q_.length:=by rw [←awN];exact (Az (of_decide_eq_true (gT adW))).symm
 rw [awN]
 try delta BS
 try delta jq pN mV js jW lU lF kI
 try delta cM
 try rw [aA1]
 exact dx 2 10 (iC (cq (au (gC hS hQ))))
def uP(a1:List aa)(a2:Int)(x:(List aa)×Int):Option (((List aa)×Int)⊕(((List aa)))):=(bif (decide (x.2<(x.1.length:Int))) then (sQ a1 a2 x.1 x.2) else (some (.inr x.1)))
theorem Vh(hd:3≤d)(a1:List aa)(a2:Int){r:((List aa)×Int)⊕(((List aa)))}(hQ:FQ (bS (wz a1 a2) (C4 a1 a2) r) Q){x:(List aa)×Int}(hS:uP a1 a2 x=some r)(he:wz a1 a2 x st):ZX d Q abV [] st:=by
 refine aC he ?_
 unfold uP at hS
 refine ay (zS (zL 3 3 ?_))
 refine sB 37 4 (.a_ .lss (tm 34) (tm 36)) hS (fun hS=>?_) (fun hS=>?_)
 ·refine zK (zT ?_)
  exact aJ (aq (LM hd a1 a2 hQ x.1 x.2 hS (by kernel_rfl)))
 ·refine zK (zF ?_)
  exact aC (J:=BR a1 a2 x.1) (by kernel_rfl) (cP (cG (au (iW hS hQ))))
def LN(a1:List aa)(a2:Int)(lH:Int):St:=⟨(up (up u0 6 (.d (.int .u64 lH))) 0 (dE ag a1)),h0⟩
def uQ(a1:List aa)(a2:Int)(lH:Int):Option ((List aa)):=((mk? 32 (IntKind.i64.wrap (lH)) (IntKind.i64.wrap (lH)) (aa.mk 0 (bq.mk 0 0 0))).bind fun z24=>((gz (decide (0+z24.length≤z24.length))).bind fun z25=>((some (nk z24 0 z24.length a1)).bind fun z26=>((bR (uP a1 a2) (z26,((min a1.length z26.length:Nat):Int))).bind fun IQ=>(some IQ)))))
theorem zu(hd:3≤d)(a1:List aa)(a2:Int){r:(List aa)}(hQ:FQ (Q9 r) Q)(lH:Int)(hS:uQ a1 a2 lH=some r)(he:aA [0,6] [] [] st=LN a1 a2 lH):ZX d Q abW [] st:=by
 refine aC he ?_
 unfold uQ at hS
 refine zS (zL 2 2 ?_)
 refine ak hS (fun z24 uE hS=>zO (v:=(.r (.aI 248 1 0 z24.length))) (aH:= [(248,⟨1,some (.own 100 4 (ag.cells z24))⟩)]) (some 30) 3 (.JP 100 4 32 [(4,(.int .i64 0))] (tm 29) (tm 29)) (QA ag (kl:= .i64) (kc:= .i64) (z0:=(aa.mk 0 (bq.mk 0 0 0))) (a:=(IntKind.i64.wrap (lH))) (c:=(IntKind.i64.wrap (lH))) (by kernel_rfl) (by kernel_rfl) (by kernel_rfl) rfl uE) (zL 1 4 (zK (zS (zL 2 2 ?_)))))
 refine ak hS (fun z25 nL hS=>ak hS (fun z26 nt hS=>zO (v:=(dI ((min a1.length z24.length:Nat):Int))) (aH:= [(248,⟨1,some (.own 100 4 (ag.cells (nk z24 0 z24.length a1)))⟩)]) (some 33) 3 (.Dt 4 (tm 31) (tm 32)) (I8 ag (b:=248) (g:=1) (l:=0) (n:=z24.length) (e:=100) (xs:=z24) (ys:=a1) (by kernel_rfl) (by kernel_rfl) rfl ((congrArg (gm _) (by kernel_rfl:cK _ (.tmp 32)=(dE ag a1))).trans (awr _ _)) nL) ?_))
 have awO:=Option.some.inj nt
 have aA2:z24.length=z26.length:=by rw [←awO];exact (Az (of_decide_eq_true (gT nL))).symm
 rw [awO]
 try delta LN
 try delta jq pN mV js jW lU lF kI
 try delta cM
 try rw [aA2]
 refine zL 1 4 (zK (ay ?_))
 refine bF (ak hS (fun IQ apw hS=>dD (wz a1 a2) (C4 a1 a2) (fun x st r Q h0 hS hQ=>Vh hd a1 a2 hQ hS h0) (x:=(z26,((min a1.length z26.length:Nat):Int))) (z:=IQ) (by show aA _ _ _ _=_;kernel_rfl) apw ?_))
 intro e bX _ hX
 obtain ⟨rfl,rfl⟩:_∧_:=hX
 refine cQ (aq (zS (zL 2 2 (zK ?_))))
 exact aG (au (aM hS hQ (fR (agS IQ))))
def YJ(a1:List aa)(a2:Int):St:=⟨(up (up u0 1 (dI a2)) 0 (dE ag a1)),h0⟩
def zv(a1:List aa)(a2:Int):Option ((List aa)):=((f198 (IntKind.u64.wrap ((a1.length:Int))) (IntKind.u64.wrap (a2))).bind fun z21=>(bif (decide (0<z21.1)) then ((gz false).bind fun z43=>((gz false).bind fun z44=>(uQ a1 a2 z21.2))) else (bif (decide (9223372036854775807<z21.2)) then ((gz false).bind fun YK=>((gz false).bind fun z46=>(uQ a1 a2 z21.2))) else (uQ a1 a2 z21.2))))
theorem Il(hd:3≤d)(a1:List aa)(a2:Int){r:(List aa)}(hQ:FQ (Q9 r) Q)(hS:zv a1 a2=some r)(he:aA [0,1] [] [] st=YJ a1 a2):ZX d Q abX [] st:=by
 refine aC he ?_
 unfold zv at hS
 refine zS (zL 5 5 ?_)
 refine ak hS (fun z21 qY hS=>zO (some 18) 6 (.call 198 [(tm 15),(tm 17)]) (aW (apu (d-1) (bO hd rfl) (IntKind.u64.wrap ((a1.length:Int))) (IntKind.u64.wrap (a2)) z21 qY)) (zL 5 11 (zK (ay (zS (zL 1 1 ?_))))))
 refine sB 22 2 (.a_ .gtr (tm 21) (.const (.int .u64 0))) hS (fun hS=>?_) (fun hS=>?_)
 ·refine zL 4 6 (zK (zT (aN ?_)))
  refine ak hS (fun z43 aA3 hS=>zO (v:= .un) (aH:= []) (some 27) 1 (.mx []) (by exact absurd aA3 (by simp [gz])) (ak hS (fun z44 Vi hS=>zO (v:= .un) (aH:= []) none 2 (.mx []) (by exact absurd Vi (by simp [gz])) (zK ?_))))
  exact zu hd a1 a2 hQ z21.2 hS (by kernel_rfl)
 ·refine zL 2 4 (sH 25 5 23 false (.a_ .gtr (tm 24) (.const (.int .u64 9223372036854775807))) hS (fun hS=>?_) (fun hS=>?_))
  ·refine zL 1 6 (zK (zT (aN ?_)))
   refine ak hS (fun YK Pk hS=>zO (v:= .un) (aH:= []) (some 27) 1 (.mx []) (by exact absurd Pk (by simp [gz])) (ak hS (fun z46 Vj hS=>zO (v:= .un) (aH:= []) none 2 (.mx []) (by exact absurd Vj (by simp [gz])) (zK ?_))))
   exact zu hd a1 a2 hQ z21.2 hS (by kernel_rfl)
  ·refine zL 1 6 (zK (zF ?_))
   exact aJ (aq (zu hd a1 a2 hQ z21.2 hS (by kernel_rfl)))
def f151(a1:List aa)(a2:Int):Option ((List aa)):=(bif (decide (a2<0)) then ((gz false).bind fun Ra=>((gz false).bind fun wA=>(zv a1 a2))) else (zv a1 a2))
theorem apx(d:Nat)(hd:3≤d)(a1:List aa)(a2:Int)(r:(List aa))(hS:f151 a1 a2=some r):cg az bE d 151 [(dE ag a1),(dI a2)] []=some ((.r (.own 0 100 4 r.length (ag.cells r))),[]):=by
 refine dN hd (fun Q hQ=>?_) af_
 unfold f151 at hS
 show ZR _ Q abY [] _
 replace hQ:FQ (Q9 r) Q:=hQ
 refine zS (zL 1 1 (zK (ay (zS (zL 1 1 ?_)))))
 refine sB 10 2 (.a_ .lss (tm 9) (ki 0)) hS (fun hS=>?_) (fun hS=>?_)
 ·refine zK (zT (aN ?_))
  refine ak hS (fun Ra apy hS=>zO (v:= .un) (aH:= []) (some 11) 1 (.mx []) (by exact absurd apy (by simp [gz])) (ak hS (fun wA Vk hS=>zO (v:= .un) (aH:= []) none 2 (.mx []) (by exact absurd Vk (by simp [gz])) (zK ?_))))
  exact Il hd a1 a2 hQ hS (by kernel_rfl)
 ·refine zK (zF ?_)
  exact aJ (aq (Il hd a1 a2 hQ hS (by kernel_rfl)))
/- farwriter/grid.blanks -/
def apz(p1:Int)(p2:Int)(p3:List aa):St:=⟨(up u0 6 (pt 56)),(up (up h0 128 ⟨0,some (.own 100 4 (ag.cells p3))⟩) 56 ⟨0,some (.box ((dI p1)::((dI p2)::((.r (.aI 128 0 0 p3.length)):: []))))⟩)⟩
theorem apA(p1:Int)(p2:Int)(p3:List aa):bA (apz p1 p2 p3) 0 c90.res=some ((.agg ((dI p1)::((dI p2)::((.r (.own 0 100 4 p3.length (ag.cells p3))):: [])))),[]):=by
 exact fK (ids:= []) (ids':= [128]) (l:= [(.agg ((dI p1)::((dI p2)::((.r (.aI 128 0 0 p3.length)):: []))))]) (by kernel_rfl) (by kernel_rfl) (GN (aX rfl (aX rfl (aX (fU ag (e:=100) (k:=4) (xs:=p3) (by kernel_rfl) rfl rfl rfl rfl) nZ))))
def ayE(r:Int×Int×(List aa))(e:PX)(st:St):Prop:=bh c90 0 ((.agg ((dI r.1)::((dI r.2.1)::((.r (.own 0 100 4 r.2.2.length (ag.cells r.2.2))):: [])))),[]) e st
def f90(a1:Int)(a2:Int)(a3:bq):Option (Int×Int×(List aa)):=((f152 a3).bind fun z3=>((f151 [z3] (IntKind.i64.wrap (a1*a2))).bind fun z4=>(some (a1,a2,z4))))
theorem adX(d:Nat)(hd:4≤d)(a1:Int)(a2:Int)(a3:bq)(r:Int×Int×(List aa))(hS:f90 a1 a2 a3=some r):cg az bE d 90 [(dI a1),(dI a2),(lT a3)] []=some ((.agg ((dI r.1)::((dI r.2.1)::((.r (.own 0 100 4 r.2.2.length (ag.cells r.2.2))):: [])))),[]):=by
 refine dN hd (fun Q hQ=>?_) apg
 unfold f90 at hS
 show ZR _ Q als [] _
 replace hQ:FQ (ayE r) Q:=hQ
 refine zS (zL 2 2 (zK (zS (zL 3 3 ?_))))
 refine ak hS (fun z3 hz3 hS=>zO (some 10) 4 (c1 152 9) (aW (aps (d-1) (bO hd rfl) a3 z3 hz3)) (zL 4 8 (ak hS (fun z4 jR hS=>zO (some 15) 9 (.call 151 [(tm 11),(tm 14)]) (nX (args:= [(.r (.aI 96 1 0 (([z3]:List aa).length))),(dI (IntKind.i64.wrap (a1*a2)))]) (by kernel_rfl) (lZ (KF ag (e:=100) (k:=4) (xs:= [z3]) (by kernel_rfl) rfl rfl) (lk tK)) (apx (d-1) (bO hd rfl) [z3] (IntKind.i64.wrap (a1*a2)) z4 jR) (by simp only [qi ag (fun _=>rfl),qj,ql,uy,uz,qm,nY,qo,uA,uB,uC,Bool.and_true,Bool.or_true,Bool.and_self]) (by kernel_rfl)) (zL 2 11 (zK ?_))))))
 exact aG (au (aM hS hQ (fR (apA a1 a2 z4))))
/- farwriter/grid.New -/
def apB(p3:Int)(p4:Int)(p5:List aa)(p6:Int):St:=⟨(up (up u0 7 (dI p6)) 6 (pt 56)),(up (up h0 216 ⟨0,some (.own 100 4 (ag.cells p5))⟩) 56 ⟨0,some (.box ((dI p3)::((dI p4)::((.r (.aI 216 0 0 p5.length)):: []))))⟩)⟩
theorem Vl(p3:Int)(p4:Int)(p5:List aa)(p6:Int):bA (apB p3 p4 p5 p6) 0 c44.res=some ((.bZ [(.agg ((dI p3)::((dI p4)::((.r (.own 0 100 4 p5.length (ag.cells p5))):: [])))),(dI p6)]),[]):=by
 exact fK (ids:= []) (ids':= [216]) (l:= [(.agg ((dI p3)::((dI p4)::((.r (.aI 216 0 0 p5.length)):: [])))),(dI p6)]) (by kernel_rfl) (by kernel_rfl) (CS (aX (GN (aX rfl (aX rfl (aX (fU ag (e:=100) (k:=4) (xs:=p5) (by kernel_rfl) rfl rfl rfl rfl) nZ)))) (aX rfl nZ)))
def apC(r:Int×Int×(List aa)×Int)(e:PX)(st:St):Prop:=bh c44 0 ((.bZ [(.agg ((dI r.1)::((dI r.2.1)::((.r (.own 0 100 4 r.2.2.1.length (ag.cells r.2.2.1))):: [])))),(dI r.2.2.2)]),[]) e st
def agT(a1:Int)(a2:Int)(a3:bq):St:=⟨(up (up (up (up u0 6 (pt 56)) 5 (pt 48)) 1 (dI a2)) 0 (dI a1)),(up (up h0 56 ⟨0,some (.box ((dI 0)::((dI 0)::((.d (.sl ([]:List aa).length (ag.cells ([])))):: []))))⟩) 48 (uO a3))⟩
def Jh(a1:Int)(a2:Int)(a3:bq):Option (Int×Int×(List aa)×Int):=((f84 a3).bind fun z5=>(bif (!decide (z5=0)) then none else ((f90 a1 a2 a3).bind fun z6=>(some (z6.1,z6.2.1,z6.2.2,0)))))
theorem YL(hd:5≤d)(a1:Int)(a2:Int)(a3:bq){r:Int×Int×(List aa)×Int}(hQ:FQ (apC r) Q)(hS:Jh a1 a2 a3=some r)(he:aA [0,1,5,6] [(48,.id 48),(56,.id 56)] [.cell 56 2 0 0 1] st=agT a1 a2 a3):ZX d Q alv [] st:=by
 refine aC he ?_
 unfold Jh at hS
 refine ay (zS (zL 1 1 ?_))
 refine ak hS (fun z5 tV hS=>zO (some 18) 2 (c1 84 17) (aW (Jg (d-1) (bO hd rfl) a3 z5 tV)) (zL 1 3 (zK (zS (zL 1 1 ?_)))))
 refine sB 20 2 (.a_ .neq (tm 19) (ki 0)) hS (fun hS=>?_) (fun hS=>?_)
 ·cases hS
 ·refine zK (zF ?_)
  refine aJ (aq (zS (zL 3 3 ?_)))
  refine ak hS (fun z6 zw hS=>zO (some 26) 4 (.call 90 [(tm 23),(tm 24),(tm 25)]) (aW (adX (d-1) (bO hd rfl) a1 a2 a3 z6 zw)) (zL 2 6 (zK ?_)))
  exact aG (au (aM hS hQ (fR (Vl z6.1 z6.2.1 z6.2.2 0))))
def f44(a1:Int)(a2:Int)(a3:bq):Option (Int×Int×(List aa)×Int):=((f89 a1 a2).bind fun z7=>(bif (!decide (z7=0)) then (some (0,0,[],z7)) else (Jh a1 a2 a3)))
theorem auN(d:Nat)(hd:5≤d)(a1:Int)(a2:Int)(a3:bq)(r:Int×Int×(List aa)×Int)(hS:f44 a1 a2 a3=some r):cg az bE d 44 [(dI a1),(dI a2),(lT a3)] []=some ((.bZ [(.agg ((dI r.1)::((dI r.2.1)::((.r (.own 0 100 4 r.2.2.1.length (ag.cells r.2.2.1))):: [])))),(dI r.2.2.2)]),[]):=by
 refine dN hd (fun Q hQ=>?_) aoW
 unfold f44 at hS
 show ZR _ Q alw [] _
 replace hQ:FQ (apC r) Q:=hQ
 refine zS (zL 3 3 (zK (ay (zS (zL 2 2 ?_)))))
 refine ak hS (fun z7 tW hS=>zO (some 12) 3 (.call 89 [(tm 10),(tm 11)]) (aW (adT (d-1) (bO hd rfl) a1 a2 z7 tW)) (zL 1 4 (zK (zS (zL 1 1 ?_)))))
 refine sB 14 2 (.a_ .neq (tm 13) (ki 0)) hS (fun hS=>?_) (fun hS=>?_)
 ·refine zK (zT (zS (zL 4 4 (zK ?_))))
  exact aG (bD (au (aM hS hQ (fR (Vl 0 0 [] z7)))))
 ·refine zK (zF ?_)
  exact aJ (aq (YL hd a1 a2 a3 hQ hS (by kernel_rfl)))
/- slices.Clone[[]farwriter/api.Cell,farwriter/api.Cell] -/
def qG(p1:List aa):St:=⟨(up u0 2 (.r (.aI 97 0 0 p1.length))),(up h0 97 ⟨0,some (.own 100 4 (ag.cells p1))⟩)⟩
theorem yM(p1:List aa):bA (qG p1) 0 vX.res=some ((.r (.own 0 100 4 p1.length (ag.cells p1))),[]):=by
 exact fK (ids:= []) (ids':= [97]) (l:= [(.r (.aI 97 0 0 p1.length))]) (by kernel_rfl) (by kernel_rfl) (fU ag (e:=100) (k:=4) (xs:=p1) (by kernel_rfl) rfl rfl rfl rfl)
def KU(r:List aa)(e:PX)(st:St):Prop:=bh vX 0 ((.r (.own 0 100 4 r.length (ag.cells r))),[]) e st
def f91(a1:List aa):Option (List aa):=((fT 32 ([]:List aa) a1).bind fun z2=>(some z2))
theorem oz(d:Nat)(hd:1≤d)(a1:List aa)(r:List aa)(hS:f91 a1=some r):cg az bE d 91 [(dE ag a1)] []=some ((.r (.own 0 100 4 r.length (ag.cells r))),[]):=by
 refine yC KT rfl rfl (Nat.le_trans (Nat.le_of_ble_eq_true rfl) hd) (fun Q hQ=>?_) (fun h0 Q hQ=>?_)
 ·unfold f91 at hS
  show ZR _ Q CW [] _
  refine zS (zL 1 1 (zK (ay (zS (zL 2 2 (zK (zF ?_)))))))
  refine aJ (aq (zS (zL 2 2 ?_)))
  refine ak hS (fun z2 hz2 hS=>zO (v:=(.r (.aI 48 2 0 z2.length))) (aH:= [(48,⟨2,some (.own 100 4 (ag.cells z2))⟩)]) (some 7) 3 (.app 100 4 32 (tm 5) (tm 6)) (fJ ag (b:=48) (g:=1) (n:=([]:List aa).length) (xs:= []) (ys:=a1) ((congrArg (gm _) (by kernel_rfl:cK _ (.tmp 6)=(.iG false a1.length (ag.cells a1)))).trans rfl) rfl (by kernel_rfl) rfl (by kernel_rfl) rfl hz2) (zL 1 4 (zK ?_)))
  exact aG (au (aM (F:=KU) hS hQ (ko (by kernel_rfl) ((congrArg (fun s=>bA s 0 vX.res) (by kernel_rfl:dZ vX.fin _=qG z2)).trans (yM z2)))))
 ·have hS:(some [])=some r:=by
   have hl:=List.eq_nil_of_length_eq_zero h0
   subst hl
   simpa [f91,fT] using hS
  show ZR _ Q CW [] _
  refine zS (zL 1 1 (zK (ay (zS (zL 2 2 (zK (zT (zS (zL 1 1 (zK ?_))))))))))
  exact aG (bD (au (aM (F:=KU) hS hQ (ko (by kernel_rfl) ((congrArg (fun s=>bA s 0 vX.res) (by kernel_rfl:dZ vX.fin _=qG [])).trans (yM []))))))
/- farwriter/grid.Clone -/
def apD(p1:Int)(p2:Int)(p3:List aa):St:=⟨(up u0 2 (pt 24)),(up (up h0 48 ⟨0,some (.own 100 4 (ag.cells p3))⟩) 24 ⟨0,some (.box ((dI p1)::((dI p2)::((.r (.aI 48 0 0 p3.length)):: []))))⟩)⟩
theorem apE(p1:Int)(p2:Int)(p3:List aa):bA (apD p1 p2 p3) 0 c45.res=some ((.agg ((dI p1)::((dI p2)::((.r (.own 0 100 4 p3.length (ag.cells p3))):: [])))),[]):=by
 exact fK (ids:= []) (ids':= [48]) (l:= [(.agg ((dI p1)::((dI p2)::((.r (.aI 48 0 0 p3.length)):: []))))]) (by kernel_rfl) (by kernel_rfl) (GN (aX rfl (aX rfl (aX (fU ag (e:=100) (k:=4) (xs:=p3) (by kernel_rfl) rfl rfl rfl rfl) nZ))))
def ayF(r:Int×Int×(List aa))(e:PX)(st:St):Prop:=bh c45 0 ((.agg ((dI r.1)::((dI r.2.1)::((.r (.own 0 100 4 r.2.2.length (ag.cells r.2.2))):: [])))),[]) e st
def f45(a1:aV):Option (Int×Int×(List aa)):=((f91 a1.Cells).bind fun z2=>(some (a1.bV,a1.cC,z2)))
theorem Rb(d:Nat)(hd:2≤d)(a1:aV)(r:Int×Int×(List aa))(hS:f45 a1=some r):cg az bE d 45 [(.agg (iZ a1))] []=some ((.agg ((dI r.1)::((dI r.2.1)::((.r (.own 0 100 4 r.2.2.length (ag.cells r.2.2))):: [])))),[]):=by
 refine dN hd (fun Q hQ=>?_) aoX
 unfold f45 at hS
 show ZR _ Q aly [] _
 replace hQ:FQ (ayF r) Q:=hQ
 refine zS (zL 2 2 (zK (zS (zL 2 2 ?_))))
 refine ak hS (fun z2 hz2 hS=>zO (some 5) 3 (c1 91 4) (aW (oz (d-1) (bO hd rfl) a1.Cells z2 hz2)) (zL 2 5 (zK (zS (zL 2 2 (zK ?_))))))
 exact aG (au (aM hS hQ (fR (apE a1.bV a1.cC z2))))
/- farwriter/tabs.Usual -/
def apF(eG:cH):St:=⟨(up u0 0 (pt 8)),(up h0 8 ⟨0,some (.box (((dR .u64).row 4 eG.Bits)++ []))⟩)⟩
theorem apG(eG:cH):bA (apF eG) 0 c46.res=some ((.agg (((dR .u64).row 4 eG.Bits)++ [])),[]):=by
 kernel_rfl
def ayG(r:cH)(e:PX)(st:St):Prop:=bh c46 0 ((.agg (((dR .u64).row 4 r.Bits)++ [])),[]) e st
def agU(x:cH×Int):St:=⟨(up (up (up u0 2 (dI x.2)) 1 (pt 16)) 0 (pt 8)),(up (up h0 16 ⟨0,some (.box (((dR .u64).row 4 x.1.Bits)++ []))⟩) 8 ⟨0,some (.box (((dR .u64).row 4 (fun _=>0))++ []))⟩)⟩
def AL(x:cH×Int)(st:St):Prop:=aA [0,1,2] [(8,.id 8),(16,.id 16)] [] st=agU x
def E2(iy:cH):St:=⟨(up (up u0 1 (pt 16)) 0 (pt 8)),(up (up h0 16 ⟨0,some (.box (((dR .u64).row 4 iy.Bits)++ []))⟩) 8 ⟨0,some (.box (((dR .u64).row 4 (fun _=>0))++ []))⟩)⟩
def Hh(z:cH)(e:PX)(st:St):Prop:=e= .exit 0∧st=E2 z
def Rc(j0:cH)(dW:Int):St:=⟨(up (up (up u0 2 (dI dW)) 1 (pt 16)) 0 (pt 8)),(up (up h0 16 ⟨0,some (.box (((dR .u64).row 4 j0.Bits)++ []))⟩) 8 ⟨0,some (.box (((dR .u64).row 4 (fun _=>0))++ []))⟩)⟩
def wB(j0:cH)(dW:Int):Option ((cH×Int)⊕cH):=((iJ (IntKind.i64.wrap (Int.tdiv dW 64)) 4).bind fun m7=>((gz (decide (0≤(Int.tmod dW 64)))).bind fun z8=>((iJ (IntKind.i64.wrap (Int.tdiv dW 64)) 4).bind fun m9=>(some (.inl ((cH.mk (upd j0.Bits m9 (gG .or .u64 (j0.Bits m7) (IntKind.u64.wrap (1*2^(min ((Int.tmod dW 64):Int).toNat 64)))))),(IntKind.i64.wrap (dW+8))))))))
theorem Nv(hd:1≤d){r:(cH×Int)⊕cH}(hQ:FQ (bS (AL) (Hh) r) Q)(j0:cH)(dW:Int)(hS:wB j0 dW=some r)(he:aA [0,1,2] [(8,.id 8),(16,.id 16)] [] st=Rc j0 dW):ZX d Q alA [] st:=by
 refine aC he ?_
 unfold wB at hS
 refine ay (bF (ez (dx 3 3 (ak hS (fun m7 hm7 hS=>eT (v:=(.r (.ptr 16 0 (0+m7*1)))) (aH:= []) (some 10) 4 none (.xZ 4 1 (tm 9) (tm 8)) (I6 (kk:= .i64) (b:=16) (g:=0) (o:=0) (j:=(IntKind.i64.wrap (Int.tdiv dW 64))) (by kernel_rfl) (by kernel_rfl) hm7) (eT (v:=(.d (.int .u64 (j0.Bits m7)))) (aH:= []) (some 11) 5 none (lf 1 10) (afe (dR .u64) (b:=16) (g:=0) (o:=0+m7*1) (f:=j0.Bits) (nn:=4) (m:=m7) (fo:=0) (pre:= []) (post:= []) (by kernel_rfl) (by kernel_rfl) (by kernel_rfl) (DX hm7) (by kernel_rfl) (by kernel_rfl) (by kernel_rfl)) (dx 2 7 (ak hS (fun z8 wC hS=>eT (v:=(.d (.int .u64 (IntKind.u64.wrap (1*2^(min ((Int.tmod dW 64):Int).toNat 64)))))) (aH:= []) (some 14) 8 none (.sh .shl (.const (.int .u64 1)) (tm 13)) (axM (kk:= .u64) (k2:= .i64) (a:=1) (c:=(Int.tmod dW 64)) (by kernel_rfl) (by kernel_rfl) (aAm wC)) (dx 2 10 (ak hS (fun m9 hm9 hS=>eT (v:=(.r (.ptr 16 0 (0+m9*1)))) (aH:= []) (some 17) 11 none (.xZ 4 1 (tm 16) (tm 8)) (I6 (kk:= .i64) (b:=16) (g:=0) (o:=0) (j:=(IntKind.i64.wrap (Int.tdiv dW 64))) (by kernel_rfl) (by kernel_rfl) hm9) (eT (v:= .un) (aH:= [(16,⟨0,some (.box (((dR .u64).row 4 (upd j0.Bits m9 (gG .or .u64 (j0.Bits m7) (IntKind.u64.wrap (1*2^(min ((Int.tmod dW 64):Int).toNat 64))))))++ []))⟩)]) none 12 none (.store 1 (tm 17) (tm 15)) (XI (dR .u64) (b:=16) (g:=0) (o:=0+m9*1) (f:=j0.Bits) (nn:=4) (m:=m9) (fo:=0) (pre:= []) (post:= []) (by kernel_rfl) (by kernel_rfl) (by kernel_rfl) (DX hm9) (new:=((.d (.int .u64 (gG .or .u64 (j0.Bits m7) (IntKind.u64.wrap (1*2^(min ((Int.tmod dW 64):Int).toNat 64)))))):: [])) (ds:= [.int .u64 (gG .or .u64 (j0.Bits m7) (IntKind.u64.wrap (1*2^(min ((Int.tmod dW 64):Int).toNat 64))))]) (z':=(gG .or .u64 (j0.Bits m7) (IntKind.u64.wrap (1*2^(min ((Int.tmod dW 64):Int).toNat 64))))) (by kernel_rfl) (by kernel_rfl) (by kernel_rfl) (by kernel_rfl) (by kernel_rfl) (by kernel_rfl)) (iC (cq (aq (aN (zL 3 3 (zE ?_)))))))))))))))))))
 exact au (gC hS hQ)
def E3(x:cH×Int):Option ((cH×Int)⊕cH):=(bif (decide (x.2≤248)) then (wB x.1 x.2) else (some (.inr x.1)))
theorem YM(hd:1≤d){r:(cH×Int)⊕cH}(hQ:FQ (bS (AL) (Hh) r) Q){x:cH×Int}(hS:E3 x=some r)(he:AL x st):ZX d Q alB [] st:=by
 refine aC he ?_
 unfold E3 at hS
 refine ay (zS (zL 1 1 ?_))
 refine sB 4 2 (.a_ .leq (tm 3) (ki 248)) hS (fun hS=>?_) (fun hS=>?_)
 ·refine zK (zT ?_)
  exact aJ (aq (Nv hd hQ x.1 x.2 hS (by kernel_rfl)))
 ·refine zK (zF ?_)
  exact aC (J:=E2 x.1) (by kernel_rfl) (cP (cG (au (iW hS hQ))))
def f46:Option (cH):=((bR (E3) ((cH.mk (fun _=>0)),8)).bind fun cO=>(some cO))
theorem auO(d:Nat)(hd:1≤d)(r:cH)(hS:f46=some r):cg az bE d 46 [] []=some ((.agg (((dR .u64).row 4 r.Bits)++ [])),[]):=by
 refine dN hd (fun Q hQ=>?_) aoY
 unfold f46 at hS
 show ZR _ Q alC [] _
 replace hQ:FQ (ayG r) Q:=hQ
 refine zS (zL 1 1 (zK (zS (zL 1 1 (zK (ay (zS (zL 1 1 (zK ?_)))))))))
 refine bF (ak hS (fun cO jn hS=>dD (AL) (Hh) (fun x st r Q h0 hS hQ=>YM hd hQ hS h0) (x:=((cH.mk (fun _=>0)),8)) (z:=cO) (by show aA _ _ _ _=_;kernel_rfl) jn ?_))
 intro e bX _ hX
 obtain ⟨rfl,rfl⟩:_∧_:=hX
 refine cQ (aq (zS (zL 2 2 (zK ?_))))
 exact aG (au (aM hS hQ (fR (apG cO))))
/- farwriter/screen.New -/
def apH(p6:ah)(p7:Int):St:=⟨(up (up u0 5 (dI p7)) 4 (pt 40)),(up (up (up h0 192 ⟨0,some (bU p6)⟩) 273 ⟨0,some (bP p6)⟩) 40 ⟨0,some (.box (gK p6 (.r (.aI 273 0 0 p6.aT.Cells.length)) (.r (.aI 192 0 0 p6.bT.Cells.length)) .nil))⟩)⟩
theorem Vm(p6:ah)(p7:Int):bA (apH p6 p7) 0 c23.res=some ((.bZ [(alf p6),(dI p7)]),[]):=by
 exact fK (ids:= []) (ids':= [273,192]) (l:= [(.agg ((dI p6.aT.bV)::((dI p6.aT.cC)::((.r (.aI 273 0 0 p6.aT.Cells.length))::((dI p6.Row)::((dI p6.dS)::((dB p6.eL)::((dI p6.jo)::((dI p6.dy)::((dI p6.bM.Flags)::((dI p6.bM.cz)::((dI p6.bM.b9)::((dI p6.gD)::(((dR .u64).row 4 p6.gU.Bits)++((dI p6.bY.1)::((dI p6.bY.2)::((dI p6.dF)::((dI p6.aR.Row)::((dI p6.aR.dS)::((dI p6.aR.bM.Flags)::((dI p6.aR.bM.cz)::((dI p6.aR.bM.b9)::((dB p6.aR.Origin)::((dI p6.aR.bY.1)::((dI p6.aR.bY.2)::((dI p6.aR.dF)::((dI p6.bT.bV)::((dI p6.bT.cC)::((.r (.aI 192 0 0 p6.bT.Cells.length))::((.d (.str p6.iF))::(.nil:: []))))))))))))))))))))))))))))))),(dI p7)]) (by kernel_rfl) (by kernel_rfl) (CS (aX (GN (aX rfl (aX rfl (aX (fU ag (e:=100) (k:=4) (xs:=p6.aT.Cells) (by kernel_rfl) rfl rfl rfl rfl) (aX rfl (aX rfl (aX rfl (aX rfl (aX rfl (aX rfl (aX rfl (aX rfl (aX rfl (XL (XM (dR .u64)) (aX rfl (aX rfl (aX rfl (aX rfl (aX rfl (aX rfl (aX rfl (aX rfl (aX rfl (aX rfl (aX rfl (aX rfl (aX rfl (aX rfl (aX (fU ag (e:=100) (k:=4) (xs:=p6.bT.Cells) (by kernel_rfl) rfl rfl rfl rfl) (aX rfl (aX rfl nZ))))))))))))))))))))))))))))))) (aX rfl nZ)))
def apI(r:ah×Int)(e:PX)(st:St):Prop:=bh c23 0 ((.bZ [(alf r.1),(dI r.2)]),[]) e st
def agV(a1:Int)(a2:Int)(fE:Int)(j7:Int)(ir:List aa):St:=⟨(up (up (up u0 6 (pt 56)) 4 (pt 40)) 1 (dI a2)),(up (up (up h0 112 ⟨0,some (.own 100 4 (ag.cells ir))⟩) 56 ⟨0,some (.box ((dI fE)::((dI j7)::((.r (.aI 112 0 0 ir.length)):: []))))⟩) 40 jq)⟩
def Ji(a1:Int)(a2:Int)(fE:Int)(j7:Int)(ir:List aa):Option (ah×Int):=((f45 (aV.mk fE j7 ir)).bind fun z5=>(f46.bind fun z6=>(some ((ah.mk (aV.mk fE j7 ir) 0 0 false 0 a2 (bq.mk 0 0 0) 12 z6 (1,1) 0 (AK.mk 0 0 (bq.mk 0 0 0) false (1,1) 0) (aV.mk z5.1 z5.2.1 z5.2.2) ([]) ([])),0))))
theorem YN(hd:6≤d)(a1:Int)(a2:Int){r:ah×Int}(hQ:FQ (apI r) Q)(fE:Int)(j7:Int)(ir:List aa)(hS:Ji a1 a2 fE j7 ir=some r)(he:aA [1,4,6] [(40,.id 40),(56,.id 56),(112,.id 112)] [.cell 40 2 0 0 1,.cell 40 30 0 0 1,.cell 40 32 0 0 1] st=agV a1 a2 fE j7 ir):ZX d Q alE [] st:=by
 refine aC he ?_
 unfold Ji at hS
 refine zS (zL 3 3 (zK (ay ?_)))
 exact ez (dx 2 2 (ak hS (fun z5 tV hS=>eT (some 23) 3 none (c1 45 22) (nX (args:= [(.agg ((dI fE)::((dI j7)::((.r (.aI 112 0 0 ir.length)):: []))))]) (by kernel_rfl) (lZ (XN (lk (lk (lZ (KF ag (e:=100) (k:=4) (xs:=ir) (by kernel_rfl) rfl rfl) tK)))) tK) (Rb (d-1) (bO hd rfl) (aV.mk fE j7 ir) z5 tV) (by simp only [qi ag (fun _=>rfl),qj,ql,uy,uz,qm,nY,qo,uA,uB,uC,Bool.and_true,Bool.or_true,Bool.and_self]) (by kernel_rfl)) (dx 1 4 (ak hS (fun z6 zw hS=>eT (some 25) 5 none (.call 46 []) (aW (auO (d-1) (bO hd rfl) z6 zw)) (dx 6 11 (iC (aq (aG (au (aM hS hQ (fR (Vm (ah.mk (aV.mk fE j7 ir) 0 0 false 0 a2 (bq.mk 0 0 0) 12 z6 (1,1) 0 (AK.mk 0 0 (bq.mk 0 0 0) false (1,1) 0) (aV.mk z5.1 z5.2.1 z5.2.2) ([]) ([])) 0))))))))))))))
def f23(a1:Int)(a2:Int):Option (ah×Int):=((f44 a1 a2 (bq.mk 0 0 0)).bind fun z4=>(bif (!decide (z4.2.2.2=0)) then (some (alh,z4.2.2.2)) else (Ji a1 a2 z4.1 z4.2.1 z4.2.2.1)))
theorem auP(d:Nat)(hd:6≤d)(a1:Int)(a2:Int)(r:ah×Int)(hS:f23 a1 a2=some r):cg az bE d 23 [(dI a1),(dI a2)] []=some ((.bZ [(alf r.1),(dI r.2)]),[]):=by
 refine dN hd (fun Q hQ=>?_) aoJ
 unfold f23 at hS
 show ZR _ Q alF [] _
 replace hQ:FQ (apI r) Q:=hQ
 refine zS (zL 2 2 (zK (zS (zL 3 3 ?_))))
 refine ak hS (fun z4 jR hS=>zO (some 13) 4 (.call 44 [(tm 10),(tm 11),(tm 12)]) (aW (auN (d-1) (bO hd rfl) a1 a2 (bq.mk 0 0 0) z4 jR)) (zL 6 10 (zK (ay (zS (zL 1 1 ?_))))))
 refine sB 17 2 (.a_ .neq (tm 16) (ki 0)) hS (fun hS=>?_) (fun hS=>?_)
 ·refine zK (zT (zS (zL 4 4 (zK ?_))))
  exact aG (bD (au (aM hS hQ (fR (Vm alh z4.2.2.2)))))
 ·refine zK (zF ?_)
  exact aJ (aq (YN hd a1 a2 hQ z4.1 z4.2.1 z4.2.2.1 hS (by kernel_rfl)))
/- slices.Clone[[]string,string] -/
def LQ(p1:List S8):St:=⟨(up u0 2 (.r (.aI 97 0 0 p1.length))),(up h0 97 ⟨0,some (.own 9 1 (eu.cells p1))⟩)⟩
theorem Vn(p1:List S8):bA (LQ p1) 0 Q2.res=some ((.r (.own 0 9 1 p1.length (eu.cells p1))),[]):=by
 exact fK (ids:= []) (ids':= [97]) (l:= [(.r (.aI 97 0 0 p1.length))]) (by kernel_rfl) (by kernel_rfl) (fU eu (e:=9) (k:=1) (xs:=p1) (by kernel_rfl) rfl rfl rfl rfl)
def apJ(r:List S8)(e:PX)(st:St):Prop:=bh Q2 0 ((.r (.own 0 9 1 r.length (eu.cells r))),[]) e st
def f24(a1:List S8):Option (List S8):=((fT 16 ([]:List S8) a1).bind fun z2=>(some z2))
theorem adY(d:Nat)(hd:1≤d)(a1:List S8)(r:List S8)(hS:f24 a1=some r):cg az bE d 24 [(dE eu a1)] []=some ((.r (.own 0 9 1 r.length (eu.cells r))),[]):=by
 refine yC aoK rfl rfl (Nat.le_trans (Nat.le_of_ble_eq_true rfl) hd) (fun Q hQ=>?_) (fun h0 Q hQ=>?_)
 ·unfold f24 at hS
  show ZR _ Q Yr [] _
  refine zS (zL 1 1 (zK (ay (zS (zL 2 2 (zK (zF ?_)))))))
  refine aJ (aq (zS (zL 2 2 ?_)))
  refine ak hS (fun z2 hz2 hS=>zO (v:=(.r (.aI 48 2 0 z2.length))) (aH:= [(48,⟨2,some (.own 9 1 (eu.cells z2))⟩)]) (some 7) 3 (.app 9 1 16 (tm 5) (tm 6)) (fJ eu (b:=48) (g:=1) (n:=([]:List S8).length) (xs:= []) (ys:=a1) ((congrArg (gm _) (by kernel_rfl:cK _ (.tmp 6)=(.iG false a1.length (eu.cells a1)))).trans rfl) rfl (by kernel_rfl) rfl (by kernel_rfl) rfl hz2) (zL 1 4 (zK ?_)))
  exact aG (au (aM (F:=apJ) hS hQ (ko (by kernel_rfl) ((congrArg (fun s=>bA s 0 Q2.res) (by kernel_rfl:dZ Q2.fin _=LQ z2)).trans (Vn z2)))))
 ·have hS:(some [])=some r:=by
   have hl:=List.eq_nil_of_length_eq_zero h0
   subst hl
   simpa [f24,fT] using hS
  show ZR _ Q Yr [] _
  refine zS (zL 1 1 (zK (ay (zS (zL 2 2 (zK (zT (zS (zL 1 1 (zK ?_))))))))))
  exact aG (bD (au (aM (F:=apJ) hS hQ (ko (by kernel_rfl) ((congrArg (fun s=>bA s 0 Q2.res) (by kernel_rfl:dZ Q2.fin _=LQ [])).trans (Vn []))))))
/- slices.Clone[[]farwriter/api.Var,farwriter/api.Var] -/
def LR(p1:List gO):St:=⟨(up u0 2 (.r (.aI 97 0 0 p1.length))),(up h0 97 ⟨0,some (.own 107 4 (ep.cells p1))⟩)⟩
theorem Vo(p1:List gO):bA (LR p1) 0 Q3.res=some ((.r (.own 0 107 4 p1.length (ep.cells p1))),[]):=by
 exact fK (ids:= []) (ids':= [97]) (l:= [(.r (.aI 97 0 0 p1.length))]) (by kernel_rfl) (by kernel_rfl) (fU ep (e:=107) (k:=4) (xs:=p1) (by kernel_rfl) rfl rfl rfl rfl)
def apK(r:List gO)(e:PX)(st:St):Prop:=bh Q3 0 ((.r (.own 0 107 4 r.length (ep.cells r))),[]) e st
def f25(a1:List gO):Option (List gO):=((fT 40 ([]:List gO) a1).bind fun z2=>(some z2))
theorem adZ(d:Nat)(hd:1≤d)(a1:List gO)(r:List gO)(hS:f25 a1=some r):cg az bE d 25 [(dE ep a1)] []=some ((.r (.own 0 107 4 r.length (ep.cells r))),[]):=by
 refine yC aoL rfl rfl (Nat.le_trans (Nat.le_of_ble_eq_true rfl) hd) (fun Q hQ=>?_) (fun h0 Q hQ=>?_)
 ·unfold f25 at hS
  show ZR _ Q Yt [] _
  refine zS (zL 1 1 (zK (ay (zS (zL 2 2 (zK (zF ?_)))))))
  refine aJ (aq (zS (zL 2 2 ?_)))
  refine ak hS (fun z2 hz2 hS=>zO (v:=(.r (.aI 48 2 0 z2.length))) (aH:= [(48,⟨2,some (.own 107 4 (ep.cells z2))⟩)]) (some 7) 3 (.app 107 4 40 (tm 5) (tm 6)) (fJ ep (b:=48) (g:=1) (n:=([]:List gO).length) (xs:= []) (ys:=a1) ((congrArg (gm _) (by kernel_rfl:cK _ (.tmp 6)=(.iG false a1.length (ep.cells a1)))).trans rfl) rfl (by kernel_rfl) rfl (by kernel_rfl) rfl hz2) (zL 1 4 (zK ?_)))
  exact aG (au (aM (F:=apK) hS hQ (ko (by kernel_rfl) ((congrArg (fun s=>bA s 0 Q3.res) (by kernel_rfl:dZ Q3.fin _=LR z2)).trans (Vo z2)))))
 ·have hS:(some [])=some r:=by
   have hl:=List.eq_nil_of_length_eq_zero h0
   subst hl
   simpa [f25,fT] using hS
  show ZR _ Q Yt [] _
  refine zS (zL 1 1 (zK (ay (zS (zL 2 2 (zK (zT (zS (zL 1 1 (zK ?_))))))))))
  exact aG (bD (au (aM (F:=apK) hS hQ (ko (by kernel_rfl) ((congrArg (fun s=>bA s 0 Q3.res) (by kernel_rfl:dZ Q3.fin _=LR [])).trans (Vo []))))))
/- farwriter/about.Name -/
def apL:St:=⟨(up u0 2 (dB true)),h0⟩
theorem apM:bA (apL) 0 c47.res=some ((dB true),[]):=by
 kernel_rfl
def apN(r:Unit)(e:PX)(st:St):Prop:=bh c47 0 ((dB true),[]) e st
def agW(a1:S8):St:=⟨(up u0 0 (.d (.str a1))),h0⟩
def Re(a1:S8):Option (Unit):=(bif (!decide (a1=([]:S8))) then (bif (decide ((a1.length:Int)≤40)) then (some ()) else none) else none)
theorem YO(hd:1≤d)(a1:S8){r:Unit}(hQ:FQ (apN r) Q)(hS:Re a1=some r)(he:aA [0] [] [] st=agW a1):ZX d Q alK [] st:=by
 refine aC he ?_
 unfold Re at hS
 refine zS (zL 1 1 ?_)
 refine sB 21 2 (.lI .neq (tm 20) (.const (.string ⟨#[]⟩))) hS (fun hS=>?_) (fun hS=>?_)
 ·refine zL 3 5 (sH 25 6 22 true (.a_ .leq (tm 24) (ki 40)) hS (fun hS=>?_) (fun hS=>?_))
  ·refine zL 2 8 (zK ?_)
   exact aG (au (aM hS hQ (fR (apM))))
  ·cases hS
 ·cases hS
def agX(a1:S8)(x:Int):St:=⟨(up (up (up u0 6 (dI x)) 5 (dI (a1.length:Int))) 0 (.d (.str a1))),h0⟩
def uR(a1:S8)(x:Int)(st:St):Prop:=aA [0,5,6] [] [] st=agX a1 x
def E4(a1:S8):St:=⟨(up u0 0 (.d (.str a1))),h0⟩
def AO(a1:S8)(z:Unit)(e:PX)(st:St):Prop:=e= .exit 0∧st=E4 a1
def Rf(a1:S8)(eG:Int):St:=⟨(up (up (up u0 6 (dI eG)) 5 (dI (a1.length:Int))) 0 (.d (.str a1))),h0⟩
def C5(a1:S8)(eG:Int):Option (Int⊕Unit):=((idx a1 eG).bind fun z7=>(bif (decide ((z7.toNat:Int)<33)) then none else ((idx a1 eG).bind fun z8=>(bif (decide (126<(z8.toNat:Int))) then none else (some (.inl (IntKind.i64.wrap (eG+1))))))))
theorem Nw(hd:1≤d)(a1:S8){r:Int⊕Unit}(hQ:FQ (bS (uR a1) (AO a1) r) Q)(eG:Int)(hS:C5 a1 eG=some r)(he:aA [0,5,6] [] [] st=Rf a1 eG):ZX d Q alH [] st:=by
 refine aC he ?_
 unfold C5 at hS
 refine ay (bF (zS (zL 2 2 (zK (zS (zL 2 2 ?_))))))
 refine ak hS (fun z7 tW hS=>zO (v:=(.d (.int .u8 (z7.toNat:Int)))) (aH:= []) (some 11) 3 (.j9 (tm 9) (tm 10)) (jk (kk:= .i64) (s:=a1) (j:=eG) (by kernel_rfl) (by kernel_rfl) tW) (sB 12 4 (.a_ .lss (tm 11) (.const (.int .u8 33))) hS (fun hS=>?_) (fun hS=>?_)))
 ·cases hS
 ·refine zL 3 7 (ak hS (fun z8 wC hS=>zG (v:=(.d (.int .u8 (z8.toNat:Int)))) (aH:= []) (some 16) 8 13 false (.j9 (tm 14) (tm 15)) (jk (kk:= .i64) (s:=a1) (j:=eG) (by kernel_rfl) (by kernel_rfl) wC) (sH 17 9 13 false (.a_ .gtr (tm 16) (.const (.int .u8 126))) hS (fun hS=>?_) (fun hS=>?_))))
  ·cases hS
  ·refine zL 1 10 (zK (zF ?_))
   refine aJ (cq (aq (aN (zL 2 2 (zE ?_)))))
   exact au (gC hS hQ)
def Rg(a1:S8)(jt:Int)(iy:Bool):St:=⟨(up (up (up (up u0 7 (dB iy)) 6 (dI jt)) 5 (dI (a1.length:Int))) 0 (.d (.str a1))),h0⟩
def wD(a1:S8)(jt:Int)(iy:Bool):Option (Int⊕Unit):=(bif iy then (C5 a1 jt) else (some (.inr ())))
theorem BU(hd:1≤d)(a1:S8){r:Int⊕Unit}(hQ:FQ (bS (uR a1) (AO a1) r) Q)(jt:Int)(iy:Bool)(hS:wD a1 jt iy=some r)(he:aA [0,5,6,7] [] [] st=Rg a1 jt iy):ZX d Q alI [] st:=by
 refine aC he ?_
 unfold wD at hS
 refine ay (sR 7 hS (fun hS=>?_) (fun hS=>?_))
 ·exact zT (aJ (aq (Nw hd a1 hQ jt hS (by kernel_rfl))))
 ·exact zF (aC (J:=E4 a1) (by kernel_rfl) (cP (cG (au (iW hS hQ)))))
def Rh(a1:S8)(x:Int):Option (Int⊕Unit):=(bif (decide (x<(a1.length:Int))) then (wD a1 x true) else (wD a1 x false))
theorem YP(hd:1≤d)(a1:S8){r:Int⊕Unit}(hQ:FQ (bS (uR a1) (AO a1) r) Q){x:Int}(hS:Rh a1 x=some r)(he:uR a1 x st):ZX d Q alJ [] st:=by
 refine aC he ?_
 unfold Rh at hS
 refine zS ?_
 refine sB 7 1 (.a_ .lss (tm 6) (tm 5)) hS (fun hS=>?_) (fun hS=>?_)
 ·refine zK ?_
  exact BU hd a1 hQ x true hS (by kernel_rfl)
 ·refine zK ?_
  exact BU hd a1 hQ x false hS (by kernel_rfl)
def f47(a1:S8):Option (Unit):=((bR (Rh a1) 0).bind fun z9=>(Re a1))
theorem auQ(d:Nat)(hd:1≤d)(a1:S8)(r:Unit)(hS:f47 a1=some r):cg az bE d 47 [(.d (.str a1))] []=some ((dB true),[]):=by
 refine dN hd (fun Q hQ=>?_) aoZ
 unfold f47 at hS
 show ZR _ Q alL [] _
 replace hQ:FQ (apN r) Q:=hQ
 refine zS (zL 1 1 (zK (ay (zS (zL 3 3 (zK ?_))))))
 refine bF (ak hS (fun z9 zx hS=>dD (uR a1) (AO a1) (fun x st r Q h0 hS hQ=>YP hd a1 hQ hS h0) (x:=0) (z:=z9) (by show aA _ _ _ _=_;kernel_rfl) zx ?_))
 intro e bX _ hX
 obtain ⟨rfl,rfl⟩:_∧_:=hX
 exact cQ (aq (YO hd a1 hQ hS (by kernel_rfl)))
/- slices.Index[[]string,string] -/
def apO:St:=⟨(up u0 4 (dI (-1))),h0⟩
theorem apP:bA (apO) 0 c92.res=some ((dI (-1)),[]):=by
 kernel_rfl
def ayH(r:Unit)(e:PX)(st:St):Prop:=bh c92 0 ((dI (-1)),[]) e st
def f92(a1:List S8)(a2:S8):Option (Unit):=(bif (decide (0<(a1.length:Int))) then none else (some ()))
theorem auR(d:Nat)(hd:1≤d)(a1:List S8)(a2:S8)(r:Unit)(hS:f92 a1 a2=some r):cg az bE d 92 [(dE eu a1),(.d (.str a2))] []=some ((dI (-1)),[]):=by
 refine dN hd (fun Q hQ=>?_) aph
 unfold f92 at hS
 show ZR _ Q alN [] _
 replace hQ:FQ (ayH r) Q:=hQ
 refine zS (zL 1 1 (zK (ay (zS (zL 3 3 (zK ?_))))))
 refine bF (jI (zS ?_))
 refine sB 9 1 (.a_ .lss (tm 8) (tm 7)) hS (fun hS=>?_) (fun hS=>?_)
 ·cases hS
 ·refine zK (ay (zF ?_))
  refine cP (cG (cG (cQ (aq (zS (zL 1 1 (zK ?_)))))))
  exact aG (au (aM hS hQ (fR (apP))))
/- slices.Contains[[]string,string] -/
def apQ:St:=⟨(up u0 4 (dB false)),h0⟩
theorem apR:bA (apQ) 0 c48.res=some ((dB false),[]):=by
 kernel_rfl
def ayI(r:Unit)(e:PX)(st:St):Prop:=bh c48 0 ((dB false),[]) e st
def f48(a1:List S8)(a2:S8):Option (Unit):=((f92 a1 a2).bind fun z2=>(some ()))
theorem auS(d:Nat)(hd:2≤d)(a1:List S8)(a2:S8)(r:Unit)(hS:f48 a1 a2=some r):cg az bE d 48 [(dE eu a1),(.d (.str a2))] []=some ((dB false),[]):=by
 refine dN hd (fun Q hQ=>?_) ao0
 unfold f48 at hS
 show ZR _ Q alP [] _
 replace hQ:FQ (ayI r) Q:=hQ
 refine zS (zL 1 1 (zK (zS (zL 2 2 ?_))))
 refine ak hS (fun z2 hz2 hS=>zO (some 7) 3 (.call 92 [(tm 5),(tm 6)]) (aW (auR (d-1) (bO hd rfl) a1 a2 z2 hz2)) (zL 2 5 (zK ?_)))
 exact aG (au (aM hS hQ (fR (apR))))
/- farwriter/about.Check -/
def apS:St:=⟨(up u0 2 (dI 0)),h0⟩
theorem apT:bA (apS) 0 c26.res=some ((dI 0),[]):=by
 kernel_rfl
def YQ(r:Unit)(e:PX)(st:St):Prop:=bh c26 0 ((dI 0),[]) e st
def agY(a1:bG):St:=⟨(up u0 1 (pt 16)),(Pc a1)⟩
def Ri(a1:bG):Option (Unit):=(bif (decide (a1.At<0)) then none else (bif (decide ((a1.Names.length:Int)<a1.At)) then none else (some ())))
theorem YR(hd:3≤d)(a1:bG){r:Unit}(hQ:FQ (YQ r) Q)(hS:Ri a1=some r)(he:aA [1] [(16,.id 16)] [] st=agY a1):ZX d Q alU [] st:=by
 refine aC he ?_
 unfold Ri at hS
 refine ay (zS (zL 2 2 ?_))
 refine sB 37 3 (.a_ .lss (tm 36) (ki 0)) hS (fun hS=>?_) (fun hS=>?_)
 ·cases hS
 ·refine zL 6 9 (sH 44 10 38 false (.a_ .gtr (tm 40) (tm 43)) hS (fun hS=>?_) (fun hS=>?_))
  ·cases hS
  ·refine zL 1 11 (zK (zF ?_))
   refine aJ (aq (zS (zL 1 1 (zK ?_))))
   exact aG (au (aM hS hQ (fR (apT))))
def agZ(a1:bG)(x:Int):St:=⟨(up (up (up (up u0 18 (dI x)) 17 (dI (a1.Names.length:Int))) 16 (dE eu a1.Names)) 1 (pt 16)),(Pc a1)⟩
def uS(a1:bG)(x:Int)(st:St):Prop:=aA [1,16,17,18] [(16,.id 16)] [] st=agZ a1 x
def E5(a1:bG):St:=⟨(up u0 1 (pt 16)),(Pc a1)⟩
def AP(a1:bG)(z:Unit)(e:PX)(st:St):Prop:=e= .exit 0∧st=E5 a1
def Rj(a1:bG)(jz:Int):St:=⟨(up (up (up (up u0 18 (dI jz)) 17 (dI (a1.Names.length:Int))) 16 (dE eu a1.Names)) 1 (pt 16)),(Pc a1)⟩
def wE(a1:bG)(jz:Int):Option (Int⊕Unit):=((idx a1.Names jz).bind fun z25=>((f47 z25).bind fun z26=>((ni a1.Names 0 jz).bind fun j4=>((f48 j4 z25).bind fun z28=>(some (.inl (IntKind.i64.wrap (jz+1))))))))
theorem Nx(hd:3≤d)(a1:bG){r:Int⊕Unit}(hQ:FQ (bS (uS a1) (AP a1) r) Q)(jz:Int)(hS:wE a1 jz=some r)(he:aA [1,16,17,18] [(16,.id 16)] [] st=Rj a1 jz):ZX d Q alR [] st:=by
 refine aC he ?_
 unfold wE at hS
 refine ay (bF (zS (zL 1 1 ?_)))
 refine ak hS (fun z25 nL hS=>zO (v:=(.cS (eu.enc z25++(eu.cells (a1.Names.drop ((jz:Int).toNat+1)))))) (aH:= []) (some 21) 2 (.fQ 9 1 (tm 16) (tm 18)) (eE eu (kk:= .i64) (xs:=a1.Names) (j:=jz) (by kernel_rfl) (by kernel_rfl) nL rfl (by intro h;cases h)) (zL 3 5 (zK (zS (zL 1 1 ?_)))))
 refine ak hS (fun z26 nt hS=>zO (some 24) 2 (c1 47 23) (aW (auQ (d-1) (bO hd rfl) z25 z26 nt)) (zL 5 7 (ak hS (fun j4 sD hS=>zG (v:=(dE eu j4)) (aH:= []) (some 30) 8 26 false (.tD 9 1 (tm 28) .none (.some (tm 29))) (I7 eu (xs:=a1.Names) (a:=0) (c:=jz) (by kernel_rfl) rfl (tJ 0) (jQ _ (kk:= .i64) (j:=jz) (by kernel_rfl)) sD) (zL 1 9 (ak hS (fun z28 Vp hS=>zG (some 32) 10 26 false (.call 48 [(tm 30),(tm 31)]) (aW (auS (d-1) (bO hd rfl) j4 z25 z28 Vp)) (zL 1 11 (zK (zF ?_))))))))))
 refine aJ (cq (aq (aN (zL 2 2 (zE ?_)))))
 exact au (gC hS hQ)
def Rk(a1:bG)(dW:Int)(eP:Bool):St:=⟨(up (up (up (up (up u0 19 (dB eP)) 18 (dI dW)) 17 (dI (a1.Names.length:Int))) 16 (dE eu a1.Names)) 1 (pt 16)),(Pc a1)⟩
def qZ(a1:bG)(dW:Int)(eP:Bool):Option (Int⊕Unit):=(bif eP then (wE a1 dW) else (some (.inr ())))
theorem BV(hd:3≤d)(a1:bG){r:Int⊕Unit}(hQ:FQ (bS (uS a1) (AP a1) r) Q)(dW:Int)(eP:Bool)(hS:qZ a1 dW eP=some r)(he:aA [1,16,17,18,19] [(16,.id 16)] [] st=Rk a1 dW eP):ZX d Q alS [] st:=by
 refine aC he ?_
 unfold qZ at hS
 refine ay (sR 19 hS (fun hS=>?_) (fun hS=>?_))
 ·exact zT (aJ (aq (Nx hd a1 hQ dW hS (by kernel_rfl))))
 ·exact zF (aC (J:=E5 a1) (by kernel_rfl) (cP (cG (au (iW hS hQ)))))
def wF(a1:bG)(x:Int):Option (Int⊕Unit):=(bif (decide (x<(a1.Names.length:Int))) then (qZ a1 x true) else (qZ a1 x false))
theorem YS(hd:3≤d)(a1:bG){r:Int⊕Unit}(hQ:FQ (bS (uS a1) (AP a1) r) Q){x:Int}(hS:wF a1 x=some r)(he:uS a1 x st):ZX d Q alT [] st:=by
 refine aC he ?_
 unfold wF at hS
 refine zS ?_
 refine sB 19 1 (.a_ .lss (tm 18) (tm 17)) hS (fun hS=>?_) (fun hS=>?_)
 ·refine zK ?_
  exact BV hd a1 hQ x true hS (by kernel_rfl)
 ·refine zK ?_
  exact BV hd a1 hQ x false hS (by kernel_rfl)
def ag0(a1:bG):St:=⟨(up u0 1 (pt 16)),(Pc a1)⟩
def Jj(a1:bG):Option (Unit):=((bR (wF a1) 0).bind fun mj=>(Ri a1))
theorem YT(hd:3≤d)(a1:bG){r:Unit}(hQ:FQ (YQ r) Q)(hS:Jj a1=some r)(he:aA [1] [(16,.id 16)] [] st=ag0 a1):ZX d Q alV [] st:=by
 refine aC he ?_
 unfold Jj at hS
 refine ay (zS (zL 4 4 (zK ?_)))
 refine bF (ak hS (fun mj yX hS=>dD (uS a1) (AP a1) (fun x st r Q h0 hS hQ=>YS hd a1 hQ hS h0) (x:=0) (z:=mj) (by show aA _ _ _ _=_;kernel_rfl) yX ?_))
 intro e bX _ hX
 obtain ⟨rfl,rfl⟩:_∧_:=hX
 exact cQ (aq (YR hd a1 hQ hS (by kernel_rfl)))
def f26(a1:bG):Option (Unit):=(bif (decide ((a1.Names.length:Int)<1)) then none else (bif (decide (8<(a1.Names.length:Int))) then none else (Jj a1)))
theorem ad0(d:Nat)(hd:3≤d)(a1:bG)(r:Unit)(hS:f26 a1=some r):cg az bE d 26 [(.agg ((dE eu a1.Names)::((dI a1.At):: [])))] []=some ((dI 0),[]):=by
 refine dN hd (fun Q hQ=>?_) aoM
 unfold f26 at hS
 show ZR _ Q alW [] _
 replace hQ:FQ (YQ r) Q:=hQ
 refine zS (zL 2 2 (zK (ay (zS (zL 3 3 ?_)))))
 refine sB 8 4 (.a_ .lss (tm 7) (ki 1)) hS (fun hS=>?_) (fun hS=>?_)
 ·cases hS
 ·refine zL 4 8 (sH 13 9 9 false (.a_ .gtr (tm 12) (ki 8)) hS (fun hS=>?_) (fun hS=>?_))
  ·cases hS
  ·refine zL 1 10 (zK (zF ?_))
   exact aJ (aq (YT hd a1 hQ hS (by kernel_rfl)))
/- slices.IndexFunc[[]farwriter/api.Var,farwriter/api.Var] -/
def apU:St:=⟨(up u0 4 (dI (-1))),h0⟩
theorem apV:bA (apU) 0 c93.res=some ((dI (-1)),[]):=by
 kernel_rfl
def ayJ(r:Unit)(e:PX)(st:St):Prop:=bh c93 0 ((dI (-1)),[]) e st
def f93(a1:List gO):Option (Unit):=(bif (decide (0<(a1.length:Int))) then none else (some ()))
theorem auT(d:Nat)(hd:1≤d)(a1:List gO)(r:Unit)(hS:f93 a1=some r):cg az bE d 93 [(dE ep a1),(.fn 50 [])] []=some ((dI (-1)),[]):=by
 refine dN hd (fun Q hQ=>?_) apj
 unfold f93 at hS
 show ZR _ Q alY [] _
 replace hQ:FQ (ayJ r) Q:=hQ
 refine zS (zL 1 1 (zK (ay (zS (zL 3 3 (zK ?_))))))
 refine bF (jI (zS ?_))
 refine sB 9 1 (.a_ .lss (tm 8) (tm 7)) hS (fun hS=>?_) (fun hS=>?_)
 ·cases hS
 ·refine zK (ay (zF ?_))
  refine cP (cG (cG (cQ (aq (zS (zL 1 1 (zK ?_)))))))
  exact aG (au (aM hS hQ (fR (apV))))
/- slices.ContainsFunc[[]farwriter/api.Var,farwriter/api.Var] -/
def apW:St:=⟨(up u0 4 (dB false)),h0⟩
theorem apX:bA (apW) 0 c49.res=some ((dB false),[]):=by
 kernel_rfl
def ayK(r:Unit)(e:PX)(st:St):Prop:=bh c49 0 ((dB false),[]) e st
def f49(a1:List gO):Option (Unit):=((f93 a1).bind fun z2=>(some ()))
theorem auU(d:Nat)(hd:2≤d)(a1:List gO)(r:Unit)(hS:f49 a1=some r):cg az bE d 49 [(dE ep a1),(.fn 50 [])] []=some ((dB false),[]):=by
 refine dN hd (fun Q hQ=>?_) ao1
 unfold f49 at hS
 show ZR _ Q al0 [] _
 replace hQ:FQ (ayK r) Q:=hQ
 refine zS (zL 1 1 (zK (zS (zL 2 2 ?_))))
 refine ak hS (fun z2 hz2 hS=>zO (some 7) 3 (.call 93 [(tm 5),(tm 6)]) (aW (auT (d-1) (bO hd rfl) a1 z2 hz2)) (zL 2 5 (zK ?_)))
 exact aG (au (aM hS hQ (fR (apX))))
/- farwriter/environ.Write -/
def apY:St:=⟨(up (up u0 3 (dI 0)) 2 (.d (.str ([]:S8)))),h0⟩
theorem apZ:bA (apY) 0 c27.res=some ((.bZ [(.d (.str ([]:S8))),(dI 0)]),[]):=by
 kernel_rfl
def ap0(r:Unit)(e:PX)(st:St):Prop:=bh c27 0 ((.bZ [(.d (.str ([]:S8))),(dI 0)]),[]) e st
def ag1(a1:List gO):St:=⟨(up u0 0 (dE ep a1)),h0⟩
def Rl(a1:List gO):Option (Unit):=(bif (decide (0<(a1.length:Int))) then none else (some ()))
theorem YV(hd:3≤d)(a1:List gO){r:Unit}(hQ:FQ (ap0 r) Q)(hS:Rl a1=some r)(he:aA [0] [] [] st=ag1 a1):ZX d Q al2 [] st:=by
 refine aC he ?_
 unfold Rl at hS
 refine zS (zL 1 1 (zK (ay (zS (zL 3 3 (zK ?_))))))
 refine bF (jI (zS ?_))
 refine sB 18 1 (.a_ .lss (tm 17) (tm 16)) hS (fun hS=>?_) (fun hS=>?_)
 ·cases hS
 ·refine zK (ay (zF ?_))
  refine cP (cG (cG (cQ (aq (zS (zL 1 1 ?_))))))
  refine zO (v:=(.d (.str ([]:S8)))) (aH:= []) (some 48) 2 (.su (tm 47)) (DZ (s:= []) ((congrArg (gm _) (by kernel_rfl:cK _ (.tmp 47)=(.r (.aI 40 1 0 (([]:S8).length))))).trans (en dM (e:=5) (k:=1) (xs:= []) (by kernel_rfl) rfl rfl)) rfl) (zL 2 4 (zK ?_))
  exact aG (au (aM hS hQ (fR (apZ))))
def f27(a1:List gO):Option (Unit):=(bif (decide (20<(a1.length:Int))) then none else ((f49 a1).bind fun z3=>(Rl a1)))
theorem ad1(d:Nat)(hd:3≤d)(a1:List gO)(r:Unit)(hS:f27 a1=some r):cg az bE d 27 [(dE ep a1)] []=some ((.bZ [(.d (.str ([]:S8))),(dI 0)]),[]):=by
 refine dN hd (fun Q hQ=>?_) aoN
 unfold f27 at hS
 show ZR _ Q al3 [] _
 replace hQ:FQ (ap0 r) Q:=hQ
 refine zS (zL 2 2 (zK (ay (zS (zL 2 2 ?_)))))
 refine sB 10 3 (.a_ .gtr (tm 9) (ki 20)) hS (fun hS=>?_) (fun hS=>?_)
 ·cases hS
 ·refine zL 2 5 (ak hS (fun z3 hz3 hS=>zG (some 13) 6 11 false (.call 49 [(tm 12),(.func 50)]) (aW (auU (d-1) (bO hd rfl) a1 z3 hz3)) (zL 1 7 (zK (zF ?_)))))
  exact aJ (aq (YV hd a1 hQ hS (by kernel_rfl)))
/- farwriter/client.New -/
def ap1(p4:aL)(p5:Int):St:=⟨(up (up u0 11 (dI p5)) 10 (pt 88)),(up h0 88 (Bq p4))⟩
theorem Vq(p4:aL)(p5:Int):bA (ap1 p4 p5) 0 c11.res=some ((.bZ [(od p4),(dI p5)]),[]):=by
 kernel_rfl
def Rm(r:aL×Int)(e:PX)(st:St):Prop:=bh c11 0 ((.bZ [(od r.1),(dI r.2)]),[]) e st
def ag2(a1:Int)(a2:Int)(a3:List S8)(a4:List gO)(a5:mo)(iy:aL):St:=⟨(up (up u0 14 (pt 120)) 10 (pt 88)),(up (up h0 120 (Bq iy)) 88 pN)⟩
def Jk(a1:Int)(a2:Int)(a3:List S8)(a4:List gO)(a5:mo)(iy:aL):Option (aL×Int):=(some ({iy with Keys:=(di.mk (upd (upd (upd (upd (upd iy.Keys.jd 10 2) 11 2) 12 2) 13 2) 14 2) (upd (upd (upd (upd (upd iy.Keys.tS 10 127) 11 21) 12 23) 13 18) 14 22))},0))
theorem YW(hd:7≤d)(a1:Int)(a2:Int)(a3:List S8)(a4:List gO)(a5:mo){r:aL×Int}(hQ:FQ (Rm r) Q)(iy:aL)(hS:Jk a1 a2 a3 a4 a5 iy=some r)(he:aA [10,14] [(88,.id 88),(120,.id 120)] [] st=ag2 a1 a2 a3 a4 a5 iy):ZX d Q He [] st:=by
 refine aC he ?_
 unfold Jk at hS
 refine zS (zL 45 45 (zK (zS (zL 3 3 (zK ?_)))))
 exact aG (au (aM hS hQ (fR (Vq ({iy with Keys:=(di.mk (upd (upd (upd (upd (upd iy.Keys.jd 10 2) 11 2) 12 2) 13 2) 14 2) (upd (upd (upd (upd (upd iy.Keys.tS 10 127) 11 21) 12 23) 13 18) 14 22))}) 0))))
def ag3(a1:Int)(a2:Int)(a3:List S8)(a4:List gO)(a5:mo)(jt:aL):St:=⟨(up (up (up u0 14 (pt 120)) 10 (pt 88)) 3 (dE ep a4)),(up (up h0 120 (Bq jt)) 88 pN)⟩
def Jl(a1:Int)(a2:Int)(a3:List S8)(a4:List gO)(a5:mo)(jt:aL):Option (aL×Int):=((f27 a4).bind fun eJ=>(Jk a1 a2 a3 a4 a5 jt))
theorem YX(hd:7≤d)(a1:Int)(a2:Int)(a3:List S8)(a4:List gO)(a5:mo){r:aL×Int}(hQ:FQ (Rm r) Q)(jt:aL)(hS:Jl a1 a2 a3 a4 a5 jt=some r)(he:aA [3,10,14] [(88,.id 88),(120,.id 120)] [.cell 120 44 0 0 1] st=ag3 a1 a2 a3 a4 a5 jt):ZX d Q zn [] st:=by
 refine aC he ?_
 unfold Jl at hS
 refine ay (zS (zL 1 1 ?_))
 refine ak hS (fun eJ mF hS=>zO (some 51) 2 (c1 27 50) (aW (ad1 (d-1) (bO hd rfl) a4 eJ mF)) (zL 5 7 (zK (zS (zL 2 2 (zK (zF ?_)))))))
 exact aJ (aq (YW hd a1 a2 a3 a4 a5 hQ jt hS (by kernel_rfl)))
def ag4(a1:Int)(a2:Int)(a3:List S8)(a4:List gO)(a5:mo)(p9:ah):St:=⟨(up (up (up (up (up u0 12 (pt 104)) 10 (pt 88)) 9 (pt 80)) 3 (dE ep a4)) 2 (dE eu a3)),(up (up (up (up (up h0 193 ⟨0,some (bU p9)⟩) 192 ⟨0,some (bP p9)⟩) 104 ⟨0,some (.box (gK p9 (.r (.aI 192 0 0 p9.aT.Cells.length)) (.r (.aI 193 0 0 p9.bT.Cells.length)) .nil))⟩) 88 pN) 80 ⟨0,some (.box (((dR .u64).row 4 a5.fO)++(((dR .u64).row 4 a5.eB)++ [])))⟩)⟩
def Jm(a1:Int)(a2:Int)(a3:List S8)(a4:List gO)(a5:mo)(p9:ah):Option (aL×Int):=((f24 a3).bind fun z7=>((f25 a4).bind fun z8=>((f26 (bG.mk z7 0)).bind fun z12=>(Jl a1 a2 a3 a4 a5 (aL.mk (bW.mk 0 0 0 ([]) false) false ([]) (bH.mk 0 0 ([]) ([]) ([])) ({p9 with cD:= []}) (dm.mk (fun _=>0) (fun _=>0) a5.fO a5.eB) (bG.mk z7 0) z8 (di.mk (fun _=>0) (fun _=>0)) (eY.mk (fun _=>0)) (dw.mk ([]) false) false)))))
theorem YY(hd:7≤d)(a1:Int)(a2:Int)(a3:List S8)(a4:List gO)(a5:mo){r:aL×Int}(hQ:FQ (Rm r) Q)(p9:ah)(hS:Jm a1 a2 a3 a4 a5 p9=some r)(he:aA [2,3,9,10,12] [(80,.id 80),(88,.id 88),(104,.id 104),(192,.id 192),(193,.id 193)] [.cell 88 14 0 0 1,.cell 88 42 0 0 1,.cell 88 44 0 0 1,.cell 88 565 0 0 1,.cell 88 567 0 0 1] st=ag4 a1 a2 a3 a4 a5 p9):ZX d Q wu [] st:=by
 refine aC he ?_
 unfold Jm at hS
 refine ay (ez (dx 2 2 (ak hS (fun z7 tW hS=>eT (some 32) 3 none (c1 24 31) (aW (adY (d-1) (bO hd rfl) a3 z7 tW)) (dx 2 5 (ak hS (fun z8 wC hS=>eT (some 35) 6 none (c1 25 34) (aW (adZ (d-1) (bO hd rfl) a4 z8 wC)) (dx 8 14 (iC (aq (ay (zS (zL 2 2 ?_)))))))))))))
 refine ak hS (fun z12 iz hS=>zO (some 44) 3 (c1 26 43) (nX (args:= [(.agg ((.r (.aI 264 1 0 z7.length))::((dI 0):: [])))]) (by kernel_rfl) (lZ (XN (lZ (KF eu (e:=9) (k:=1) (xs:=z7) (by kernel_rfl) rfl rfl) (lk tK))) tK) (ad0 (d-1) (bO hd rfl) (bG.mk z7 0) z12 iz) (by kernel_rfl) (by kernel_rfl)) (zL 1 4 (zK (zS (zL 2 2 (zK (zF ?_)))))))
 exact aJ (aq (YX hd a1 a2 a3 a4 a5 hQ (aL.mk (bW.mk 0 0 0 ([]) false) false ([]) (bH.mk 0 0 ([]) ([]) ([])) ({p9 with cD:= []}) (dm.mk (fun _=>0) (fun _=>0) a5.fO a5.eB) (bG.mk z7 0) z8 (di.mk (fun _=>0) (fun _=>0)) (eY.mk (fun _=>0)) (dw.mk ([]) false) false) hS (by exact (by kernel_rfl:_=(⟨(up (up (up u0 14 (pt 120)) 10 (pt 88)) 3 (dE ep a4)),(up (up h0 120 ⟨0,some (.box (sO (aL.mk ((aL.mk (bW.mk 0 0 0 ([]) false) false ([]) (bH.mk 0 0 ([]) ([]) ([])) ({p9 with cD:= []}) (dm.mk (fun _=>0) (fun _=>0) a5.fO a5.eB) (bG.mk z7 0) z8 (di.mk (fun _=>0) (fun _=>0)) (eY.mk (fun _=>0)) (dw.mk ([]) false) false).gj) ((aL.mk (bW.mk 0 0 0 ([]) false) false ([]) (bH.mk 0 0 ([]) ([]) ([])) ({p9 with cD:= []}) (dm.mk (fun _=>0) (fun _=>0) a5.fO a5.eB) (bG.mk z7 0) z8 (di.mk (fun _=>0) (fun _=>0)) (eY.mk (fun _=>0)) (dw.mk ([]) false) false).Cr) ((aL.mk (bW.mk 0 0 0 ([]) false) false ([]) (bH.mk 0 0 ([]) ([]) ([])) ({p9 with cD:= []}) (dm.mk (fun _=>0) (fun _=>0) a5.fO a5.eB) (bG.mk z7 0) z8 (di.mk (fun _=>0) (fun _=>0)) (eY.mk (fun _=>0)) (dw.mk ([]) false) false).Part) ((aL.mk (bW.mk 0 0 0 ([]) false) false ([]) (bH.mk 0 0 ([]) ([]) ([])) ({p9 with cD:= []}) (dm.mk (fun _=>0) (fun _=>0) a5.fO a5.eB) (bG.mk z7 0) z8 (di.mk (fun _=>0) (fun _=>0)) (eY.mk (fun _=>0)) (dw.mk ([]) false) false).Psr) (ah.mk (aV.mk ((aL.mk (bW.mk 0 0 0 ([]) false) false ([]) (bH.mk 0 0 ([]) ([]) ([])) ({p9 with cD:= []}) (dm.mk (fun _=>0) (fun _=>0) a5.fO a5.eB) (bG.mk z7 0) z8 (di.mk (fun _=>0) (fun _=>0)) (eY.mk (fun _=>0)) (dw.mk ([]) false) false).af.aT.bV) ((aL.mk (bW.mk 0 0 0 ([]) false) false ([]) (bH.mk 0 0 ([]) ([]) ([])) ({p9 with cD:= []}) (dm.mk (fun _=>0) (fun _=>0) a5.fO a5.eB) (bG.mk z7 0) z8 (di.mk (fun _=>0) (fun _=>0)) (eY.mk (fun _=>0)) (dw.mk ([]) false) false).af.aT.cC) p9.aT.Cells) ((aL.mk (bW.mk 0 0 0 ([]) false) false ([]) (bH.mk 0 0 ([]) ([]) ([])) ({p9 with cD:= []}) (dm.mk (fun _=>0) (fun _=>0) a5.fO a5.eB) (bG.mk z7 0) z8 (di.mk (fun _=>0) (fun _=>0)) (eY.mk (fun _=>0)) (dw.mk ([]) false) false).af.Row) ((aL.mk (bW.mk 0 0 0 ([]) false) false ([]) (bH.mk 0 0 ([]) ([]) ([])) ({p9 with cD:= []}) (dm.mk (fun _=>0) (fun _=>0) a5.fO a5.eB) (bG.mk z7 0) z8 (di.mk (fun _=>0) (fun _=>0)) (eY.mk (fun _=>0)) (dw.mk ([]) false) false).af.dS) ((aL.mk (bW.mk 0 0 0 ([]) false) false ([]) (bH.mk 0 0 ([]) ([]) ([])) ({p9 with cD:= []}) (dm.mk (fun _=>0) (fun _=>0) a5.fO a5.eB) (bG.mk z7 0) z8 (di.mk (fun _=>0) (fun _=>0)) (eY.mk (fun _=>0)) (dw.mk ([]) false) false).af.eL) ((aL.mk (bW.mk 0 0 0 ([]) false) false ([]) (bH.mk 0 0 ([]) ([]) ([])) ({p9 with cD:= []}) (dm.mk (fun _=>0) (fun _=>0) a5.fO a5.eB) (bG.mk z7 0) z8 (di.mk (fun _=>0) (fun _=>0)) (eY.mk (fun _=>0)) (dw.mk ([]) false) false).af.jo) ((aL.mk (bW.mk 0 0 0 ([]) false) false ([]) (bH.mk 0 0 ([]) ([]) ([])) ({p9 with cD:= []}) (dm.mk (fun _=>0) (fun _=>0) a5.fO a5.eB) (bG.mk z7 0) z8 (di.mk (fun _=>0) (fun _=>0)) (eY.mk (fun _=>0)) (dw.mk ([]) false) false).af.dy) ((aL.mk (bW.mk 0 0 0 ([]) false) false ([]) (bH.mk 0 0 ([]) ([]) ([])) ({p9 with cD:= []}) (dm.mk (fun _=>0) (fun _=>0) a5.fO a5.eB) (bG.mk z7 0) z8 (di.mk (fun _=>0) (fun _=>0)) (eY.mk (fun _=>0)) (dw.mk ([]) false) false).af.bM) ((aL.mk (bW.mk 0 0 0 ([]) false) false ([]) (bH.mk 0 0 ([]) ([]) ([])) ({p9 with cD:= []}) (dm.mk (fun _=>0) (fun _=>0) a5.fO a5.eB) (bG.mk z7 0) z8 (di.mk (fun _=>0) (fun _=>0)) (eY.mk (fun _=>0)) (dw.mk ([]) false) false).af.gD) ((aL.mk (bW.mk 0 0 0 ([]) false) false ([]) (bH.mk 0 0 ([]) ([]) ([])) ({p9 with cD:= []}) (dm.mk (fun _=>0) (fun _=>0) a5.fO a5.eB) (bG.mk z7 0) z8 (di.mk (fun _=>0) (fun _=>0)) (eY.mk (fun _=>0)) (dw.mk ([]) false) false).af.gU) ((aL.mk (bW.mk 0 0 0 ([]) false) false ([]) (bH.mk 0 0 ([]) ([]) ([])) ({p9 with cD:= []}) (dm.mk (fun _=>0) (fun _=>0) a5.fO a5.eB) (bG.mk z7 0) z8 (di.mk (fun _=>0) (fun _=>0)) (eY.mk (fun _=>0)) (dw.mk ([]) false) false).af.bY) ((aL.mk (bW.mk 0 0 0 ([]) false) false ([]) (bH.mk 0 0 ([]) ([]) ([])) ({p9 with cD:= []}) (dm.mk (fun _=>0) (fun _=>0) a5.fO a5.eB) (bG.mk z7 0) z8 (di.mk (fun _=>0) (fun _=>0)) (eY.mk (fun _=>0)) (dw.mk ([]) false) false).af.dF) ((aL.mk (bW.mk 0 0 0 ([]) false) false ([]) (bH.mk 0 0 ([]) ([]) ([])) ({p9 with cD:= []}) (dm.mk (fun _=>0) (fun _=>0) a5.fO a5.eB) (bG.mk z7 0) z8 (di.mk (fun _=>0) (fun _=>0)) (eY.mk (fun _=>0)) (dw.mk ([]) false) false).af.aR) (aV.mk ((aL.mk (bW.mk 0 0 0 ([]) false) false ([]) (bH.mk 0 0 ([]) ([]) ([])) ({p9 with cD:= []}) (dm.mk (fun _=>0) (fun _=>0) a5.fO a5.eB) (bG.mk z7 0) z8 (di.mk (fun _=>0) (fun _=>0)) (eY.mk (fun _=>0)) (dw.mk ([]) false) false).af.bT.bV) ((aL.mk (bW.mk 0 0 0 ([]) false) false ([]) (bH.mk 0 0 ([]) ([]) ([])) ({p9 with cD:= []}) (dm.mk (fun _=>0) (fun _=>0) a5.fO a5.eB) (bG.mk z7 0) z8 (di.mk (fun _=>0) (fun _=>0)) (eY.mk (fun _=>0)) (dw.mk ([]) false) false).af.bT.cC) p9.bT.Cells) ((aL.mk (bW.mk 0 0 0 ([]) false) false ([]) (bH.mk 0 0 ([]) ([]) ([])) ({p9 with cD:= []}) (dm.mk (fun _=>0) (fun _=>0) a5.fO a5.eB) (bG.mk z7 0) z8 (di.mk (fun _=>0) (fun _=>0)) (eY.mk (fun _=>0)) (dw.mk ([]) false) false).af.iF) ((aL.mk (bW.mk 0 0 0 ([]) false) false ([]) (bH.mk 0 0 ([]) ([]) ([])) ({p9 with cD:= []}) (dm.mk (fun _=>0) (fun _=>0) a5.fO a5.eB) (bG.mk z7 0) z8 (di.mk (fun _=>0) (fun _=>0)) (eY.mk (fun _=>0)) (dw.mk ([]) false) false).af.cD)) ((aL.mk (bW.mk 0 0 0 ([]) false) false ([]) (bH.mk 0 0 ([]) ([]) ([])) ({p9 with cD:= []}) (dm.mk (fun _=>0) (fun _=>0) a5.fO a5.eB) (bG.mk z7 0) z8 (di.mk (fun _=>0) (fun _=>0)) (eY.mk (fun _=>0)) (dw.mk ([]) false) false).Neg) (bG.mk z7 ((aL.mk (bW.mk 0 0 0 ([]) false) false ([]) (bH.mk 0 0 ([]) ([]) ([])) ({p9 with cD:= []}) (dm.mk (fun _=>0) (fun _=>0) a5.fO a5.eB) (bG.mk z7 0) z8 (di.mk (fun _=>0) (fun _=>0)) (eY.mk (fun _=>0)) (dw.mk ([]) false) false).cy.At)) z8 ((aL.mk (bW.mk 0 0 0 ([]) false) false ([]) (bH.mk 0 0 ([]) ([]) ([])) ({p9 with cD:= []}) (dm.mk (fun _=>0) (fun _=>0) a5.fO a5.eB) (bG.mk z7 0) z8 (di.mk (fun _=>0) (fun _=>0)) (eY.mk (fun _=>0)) (dw.mk ([]) false) false).Keys) ((aL.mk (bW.mk 0 0 0 ([]) false) false ([]) (bH.mk 0 0 ([]) ([]) ([])) ({p9 with cD:= []}) (dm.mk (fun _=>0) (fun _=>0) a5.fO a5.eB) (bG.mk z7 0) z8 (di.mk (fun _=>0) (fun _=>0)) (eY.mk (fun _=>0)) (dw.mk ([]) false) false).Mask) ((aL.mk (bW.mk 0 0 0 ([]) false) false ([]) (bH.mk 0 0 ([]) ([]) ([])) ({p9 with cD:= []}) (dm.mk (fun _=>0) (fun _=>0) a5.fO a5.eB) (bG.mk z7 0) z8 (di.mk (fun _=>0) (fun _=>0)) (eY.mk (fun _=>0)) (dw.mk ([]) false) false).jE) ((aL.mk (bW.mk 0 0 0 ([]) false) false ([]) (bH.mk 0 0 ([]) ([]) ([])) ({p9 with cD:= []}) (dm.mk (fun _=>0) (fun _=>0) a5.fO a5.eB) (bG.mk z7 0) z8 (di.mk (fun _=>0) (fun _=>0)) (eY.mk (fun _=>0)) (dw.mk ([]) false) false).Ie)) (.d (.sl p9.aT.Cells.length (((ag.cells p9.aT.Cells).drop (0*ag.k)).take (p9.aT.Cells.length*ag.k)))) (.d (.sl p9.bT.Cells.length (((ag.cells p9.bT.Cells).drop (0*ag.k)).take (p9.bT.Cells.length*ag.k)))) (.d (.sl ((aL.mk (bW.mk 0 0 0 ([]) false) false ([]) (bH.mk 0 0 ([]) ([]) ([])) ({p9 with cD:= []}) (dm.mk (fun _=>0) (fun _=>0) a5.fO a5.eB) (bG.mk z7 0) z8 (di.mk (fun _=>0) (fun _=>0)) (eY.mk (fun _=>0)) (dw.mk ([]) false) false).af.cD).length (bJ.cells ((aL.mk (bW.mk 0 0 0 ([]) false) false ([]) (bH.mk 0 0 ([]) ([]) ([])) ({p9 with cD:= []}) (dm.mk (fun _=>0) (fun _=>0) a5.fO a5.eB) (bG.mk z7 0) z8 (di.mk (fun _=>0) (fun _=>0)) (eY.mk (fun _=>0)) (dw.mk ([]) false) false).af.cD)))) (.d (.sl z7.length (((eu.cells z7).drop (0*eu.k)).take (z7.length*eu.k)))) (.d (.sl z8.length (((ep.cells z8).drop (0*ep.k)).take (z8.length*ep.k))))))⟩) 88 pN)⟩:St)).trans (by simp only [dJ.II];kernel_rfl))))
def f11(a1:Int)(a2:Int)(a3:List S8)(a4:List gO)(a5:mo):Option (aL×Int):=((f23 a1 a2).bind fun z6=>(bif (!decide (z6.2=0)) then (some (awF,z6.2)) else (Jm a1 a2 a3 a4 a5 ({z6.1 with cD:= []}))))
theorem auV(d:Nat)(hd:7≤d)(a1:Int)(a2:Int)(a3:List S8)(a4:List gO)(a5:mo)(r:aL×Int)(hS:f11 a1 a2 a3 a4 a5=some r):cg az bE d 11 [(dI a1),(dI a2),(dE eu a3),(dE ep a4),(.agg (((dR .u64).row 4 a5.fO)++(((dR .u64).row 4 a5.eB)++ [])))] []=some ((.bZ [(od r.1),(dI r.2)]),[]):=by
 refine dN hd (fun Q hQ=>?_) aoF
 unfold f11 at hS
 show ZR _ Q al5 [] _
 replace hQ:FQ (Rm r) Q:=hQ
 refine zS (zL 3 3 (zK (zS (zL 2 2 ?_))))
 refine ak hS (fun z6 zw hS=>zO (some 23) 3 (.call 23 [(tm 21),(tm 22)]) (aW (auP (d-1) (bO hd rfl) a1 a2 z6 zw)) (zL 6 9 (zK (ay (zS (zL 1 1 ?_))))))
 refine sB 27 2 (.a_ .neq (tm 26) (ki 0)) hS (fun hS=>?_) (fun hS=>?_)
 ·refine zK (zT (zS (zL 4 4 (zK ?_))))
  exact aG (bD (au (aM hS hQ (fR (Vq awF z6.2)))))
 ·refine zK (zF ?_)
  exact aJ (aq (YY hd a1 a2 a3 a4 a5 hQ ({z6.1 with cD:= []}) hS (by kernel_rfl)))
/- farwriter/farkeep.clientLives -/
theorem pY(d:Nat)(hd:0≤d)(r:Bool)(hS:jO=some r):cg az bE d 12 [] []=some ((dB r),[]):=qp (l:=libs) rfl rfl rfl (aky hS) d
/- strings.ReplaceAll -/
theorem E6(d:Nat)(hd:0≤d)(a1:S8)(a2:S8)(a3:S8)(r:S8)(hS:gJ a1 a2 a3=some r):cg az bE d 14 [(.d (.str a1)),(.d (.str a2)),(.d (.str a3))] []=some ((.d (.str r)),[]):=qp (l:=libs) rfl rfl rfl (atd hS) d
/- farwriter/iac.Check -/
def ap2(p1:Int):St:=⟨(up u0 2 (dI p1)),h0⟩
theorem Vr(p1:Int):bA (ap2 p1) 0 c52.res=some ((dI p1),[]):=by
 kernel_rfl
def ap3(r:Int)(e:PX)(st:St):Prop:=bh c52 0 ((dI r),[]) e st
def ag5(a1:bW):St:=⟨(up (up (up u0 4 (dB true)) 3 (dB false)) 1 (pt 16)),(up h0 16 ⟨0,some (.box (ES a1))⟩)⟩
def Ro(a1:bW):Option (Int):=(bif (decide (a1.Bp=0)) then (bif (decide (a1.oZ=([]:S8))) then (bif (!(!a1.Over)) then (some 4) else (some 0)) else none) else none)
theorem YZ(hd:1≤d)(a1:bW){r:Int}(hQ:FQ (ap3 r) Q)(hS:Ro a1=some r)(he:aA [1,3,4] [(16,.id 16)] [] st=ag5 a1):ZX d Q al7 [] st:=by
 refine aC he ?_
 unfold Ro at hS
 refine ay (zS (zL 1 1 (zK (zF (aN (zL 4 4 ?_))))))
 refine sH 73 5 70 true (ck 72 0) hS (fun hS=>?_) (fun hS=>?_)
 ·refine zL 4 9 (sH 78 10 75 true (.lI .eql (tm 77) (.const (.string ⟨#[]⟩))) hS (fun hS=>?_) (fun hS=>?_))
  ·refine zL 7 17 (zK (ay (zS (zL 2 2 (zK ?_)))))
   refine sR 86 hS (fun hS=>?_) (fun hS=>?_)
   ·refine zT (zS (zL 1 1 (zK ?_)))
    exact aG (bD (au (aM hS hQ (fR (Vr 4)))))
   ·refine zF (aJ (aq (zS (zL 1 1 (zK ?_)))))
    exact aG (au (aM hS hQ (fR (Vr 0))))
  ·cases hS
 ·cases hS
def f52(a1:bW):Option (Int):=(bif (decide (a1.Mode=4)) then none else (bif (decide (a1.Mode=5)) then none else (bif (decide (0≤a1.Mode)) then (bif (decide (a1.Mode≤5)) then (bif (decide (a1.Mode=2)) then none else (bif (decide (a1.G9=0)) then (Ro a1) else none)) else none) else none)))
theorem ad2(d:Nat)(hd:1≤d)(a1:bW)(r:Int)(hS:f52 a1=some r):cg az bE d 52 [(.agg (ES a1))] []=some ((dI r),[]):=by
 refine dN hd (fun Q hQ=>?_) ao2
 unfold f52 at hS
 show ZR _ Q al8 [] _
 replace hQ:FQ (ap3 r) Q:=hQ
 refine zS (zL 2 2 (zK (zS (zL 2 2 ?_))))
 refine sB 7 3 (ck 6 4) hS (fun hS=>?_) (fun hS=>?_)
 ·cases hS
 ·refine zL 3 6 (sH 11 7 8 false (ck 10 5) hS (fun hS=>?_) (fun hS=>?_))
  ·cases hS
  ·refine zL 2 9 (zK (zS (zL 2 2 ?_)))
   refine sB 15 3 (.a_ .geq (tm 14) (ki 0)) hS (fun hS=>?_) (fun hS=>?_)
   ·refine zL 3 6 (sH 19 7 16 true (.a_ .leq (tm 18) (ki 5)) hS (fun hS=>?_) (fun hS=>?_))
    ·refine zL 2 9 (zK (ay (zS (zL 2 2 ?_))))
     refine sB 23 3 (ck 22 2) hS (fun hS=>?_) (fun hS=>?_)
     ·cases hS
     ·refine zK (zF (aN (zL 4 4 ?_)))
      refine sH 39 5 36 true (ck 38 0) hS (fun hS=>?_) (fun hS=>?_)
      ·refine zL 2 7 (zK ?_)
       exact YZ hd a1 hQ hS (by kernel_rfl)
      ·cases hS
    ·cases hS
   ·cases hS
/- farwriter/utf.Check -/
def ap4:St:=⟨(up u0 2 (dI 0)),h0⟩
theorem ap5:bA (ap4) 0 c53.res=some ((dI 0),[]):=by
 kernel_rfl
def ayM(r:Unit)(e:PX)(st:St):Prop:=bh c53 0 ((dI 0),[]) e st
def f53(a1:S8):Option (Unit):=(bif (decide (a1=([]:S8))) then (some ()) else none)
theorem ad3(d:Nat)(hd:1≤d)(a1:S8)(r:Unit)(hS:f53 a1=some r):cg az bE d 53 [(.d (.str a1))] []=some ((dI 0),[]):=by
 refine dN hd (fun Q hQ=>?_) ao3
 unfold f53 at hS
 show ZR _ Q al_ [] _
 replace hQ:FQ (ayM r) Q:=hQ
 refine zS (zL 1 1 (zK (ay (zS (zL 1 1 ?_)))))
 refine sB 6 2 (.lI .eql (tm 5) (.const (.string ⟨#[]⟩))) hS (fun hS=>?_) (fun hS=>?_)
 ·refine zK (zT (zS (zL 1 1 (zK ?_))))
  exact aG (bD (au (aM hS hQ (fR (ap5)))))
 ·cases hS
/- strings.Trim -/
theorem Vs(d:Nat)(hd:0≤d)(a1:S8)(a2:S8)(r:S8)(hS:oN a1 a2=some r):cg az bE d 154 [(.d (.str a1)),(.d (.str a2))] []=some ((.d (.str r)),[]):=qp (l:=libs) rfl rfl rfl (axV hS) d
/- strings.Split -/
theorem Rq(d:Nat)(hd:0≤d)(a1:S8)(a2:S8)(r:List S8)(hS:ld a1 a2=some r):cg az bE d 155 [(.d (.str a1)),(.d (.str a2))] []=some ((dE eu r),[]):=qp (l:=libs) rfl rfl rfl (axW hS) d
end
end Go.Proofs.YtobkkblijfhpoaaGreatDoor.Pm
