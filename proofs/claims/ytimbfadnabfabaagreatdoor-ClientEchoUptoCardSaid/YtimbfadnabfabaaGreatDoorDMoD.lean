/- Typed functions, and that the codes are these. Printed by dec.py. -/
import Derived.Test.YtimbfadnabfabaaGreatDoorDMoC
namespace Go.Proofs.YtimbfadnabfabaaGreatDoor.Pm
noncomputable section
set_option maxRecDepth 1000000
set_option maxHeartbeats 20000000
set_option linter.unusedVariables false
set_option linter.unusedSimpArgs false
variable {d : Nat} {Q : PQ} {st : St}
/- farwriter/iac.Check -/
def Qk(r:Int)(e:PX)(st:St):Prop:=aU c19 0 ((dI r),[]) e st
def agN(a1:kf)(nI tG:Bool):St:=⟨(up (up (up u0 4 (dB tG)) 3 (dB nI)) 1 (pt 16)),(up h0 16 ⟨0,some (.box (aah a1))⟩)⟩
def nJ(a1:kf)(nI tG:Bool):Option (Int):=(bif nI then (bif tG then (bif (decide (0≤a1.Bq)) then (bif (decide (a1.Bq≤255)) then (bif (decide ((a1.oH.length:Int)≤4096)) then (bif (!a1.Over) then (some 0) else (bif (decide (a1.oH=([]:S8))) then (some 0) else (some 4))) else (some 4)) else (some 4)) else (some 4)) else (some 4)) else (bif tG then (bif (decide (a1.Bq=0)) then (bif (decide (a1.oH=([]:S8))) then (bif (!(!a1.Over)) then (some 4) else (some 0)) else (some 4)) else (some 4)) else (some 4)))
theorem mI(hd:1≤d){a1:kf}{r:Int}(hQ:FQ (Qk r) Q){nI tG:Bool}(hS:nJ a1 nI tG=some r): ∀st,au [1,3,4] [(16,.id 16)] [] st=agN a1 nI tG→ZX d Q akj [] st:=by
 intro st he
 refine av he ?_
 unfold nJ at hS
 refine aC (zS (zL 1 (zK (sR 41 hS (fun hS=>?_) (fun hS=>?_)))))
 ·refine zT (a_ (zL 2 (sL 43 hS (fun hS=>?_) (fun hS=>?_))))
  ·refine zL 2 (sB 46 hS (fun hS=>?_) (fun hS=>?_))
   ·refine zL 4 (sB 51 hS (fun hS=>?_) (fun hS=>?_))
    ·refine zL 5 (sB 57 hS (fun hS=>?_) (fun hS=>?_))
     ·refine zL 6 (sL 63 hS (fun hS=>?_) (fun hS=>?_))
      ·exact nL hS hQ
      ·refine zL 2 (sB 66 hS (fun hS=>?_) (fun hS=>?_))
       ·exact nL hS hQ
       ·exact nL hS hQ
     ·exact nL hS hQ
    ·exact nL hS hQ
   ·exact nL hS hQ
  ·exact nL hS hQ
 ·refine zF (a_ (zL 2 (sL 70 hS (fun hS=>?_) (fun hS=>?_))))
  ·refine zL 2 (sB 73 hS (fun hS=>?_) (fun hS=>?_))
   ·refine zL 4 (sB 78 hS (fun hS=>?_) (fun hS=>?_))
    ·refine zL 7 (zK (aC (zS (zL 2 (zK (sR 86 hS (fun hS=>?_) (fun hS=>?_)))))))
     ·exact nR hS hQ
     ·exact nR hS hQ
    ·exact nL hS hQ
   ·exact nL hS hQ
  ·exact nL hS hQ
def agO(a1:kf)(lS en:Bool):St:=⟨(up (up (up u0 4 (dB en)) 3 (dB lS)) 1 (pt 16)),(up h0 16 ⟨0,some (.box (aah a1))⟩)⟩
def wL(a1:kf)(lS en:Bool):Option (Int):=(bif (decide (a1.Mode=2)) then (bif en then (bif (decide (251≤a1.FT)) then (bif (decide (a1.FT≤254)) then (nJ a1 lS true) else (nJ a1 lS false)) else (nJ a1 lS false)) else (nJ a1 lS false)) else (bif en then (bif (decide (a1.FT=0)) then (nJ a1 lS true) else (nJ a1 lS false)) else (nJ a1 lS false)))
theorem CQ(hd:1≤d){a1:kf}{r:Int}(hQ:FQ (Qk r) Q){lS en:Bool}(hS:wL a1 lS en=some r): ∀st,au [1,3,4] [(16,.id 16)] [] st=agO a1 lS en→ZX d Q akk [] st:=by
 intro st he
 refine av he ?_
 unfold wL at hS
 refine aC (zS (zL 2 (sB 23 hS (fun hS=>?_) (fun hS=>?_))))
 ·refine zK (zT (a_ (zL 2 (sL 25 hS (fun hS=>?_) (fun hS=>?_)))))
  ·refine zL 2 (sB 28 hS (fun hS=>?_) (fun hS=>?_))
   ·refine zL 4 (sB 33 hS (fun hS=>?_) (fun hS=>?_))
    ·exact zL 2 (zK (mI hd hQ hS _ (by kernel_rfl)))
    ·exact zL 2 (zK (mI hd hQ hS _ (by kernel_rfl)))
   ·exact zL 7 (zK (mI hd hQ hS _ (by kernel_rfl)))
  ·exact zL 10 (zK (mI hd hQ hS _ (by kernel_rfl)))
 ·refine zK (zF (a_ (zL 2 (sL 36 hS (fun hS=>?_) (fun hS=>?_)))))
  ·refine zL 2 (sB 39 hS (fun hS=>?_) (fun hS=>?_))
   ·exact zL 2 (zK (mI hd hQ hS _ (by kernel_rfl)))
   ·exact zL 2 (zK (mI hd hQ hS _ (by kernel_rfl)))
  ·exact jL (mI hd hQ hS)
def agP(a1:kf)(ld:Bool):St:=⟨(up (up u0 3 (dB ld)) 1 (pt 16)),(up h0 16 ⟨0,some (.box (aah a1))⟩)⟩
def wM(a1:kf)(ld:Bool):Option (Int):=(bif (decide (0≤a1.Mode)) then (bif (decide (a1.Mode≤5)) then (wL a1 ld true) else (wL a1 ld false)) else (wL a1 ld false))
theorem CR(hd:1≤d){a1:kf}{r:Int}(hQ:FQ (Qk r) Q){ld:Bool}(hS:wM a1 ld=some r): ∀st,au [1,3] [(16,.id 16)] [] st=agP a1 ld→ZX d Q akl [] st:=by
 intro st he
 refine av he ?_
 unfold wM at hS
 refine zS (zL 2 (sB 15 hS (fun hS=>?_) (fun hS=>?_)))
 ·refine zL 3 (sB 19 hS (fun hS=>?_) (fun hS=>?_))
  ·exact zL 2 (zK (CQ hd hQ hS _ (by kernel_rfl)))
  ·exact zL 2 (zK (CQ hd hQ hS _ (by kernel_rfl)))
 ·exact jL (CQ hd hQ hS)
def f19(a1:kf):Option (Int):=(bif (decide (a1.Mode=4)) then (wM a1 true) else (bif (decide (a1.Mode=5)) then (wM a1 true) else (wM a1 false)))
theorem avG{d:Nat}(hd:1≤d){a1:kf}{r:Int}(hS:f19 a1=some r):bZ ay aX d 19 [(.agg (aah a1))] []=some ((dI r),[]):=by
 refine cI hd (fun Q hQ=>?_) aoc
 unfold f19 at hS
 show ZR _ Q akm [] _
 replace hQ:FQ (Qk r) Q:=hQ
 refine zS (zL 2 (zK (zS (zL 2 (sB 7 hS (fun hS=>?_) (fun hS=>?_))))))
 ·exact zL 6 (zK (CR hd hQ hS _ (by kernel_rfl)))
 ·refine zL 3 (sB 11 hS (fun hS=>?_) (fun hS=>?_))
  ·exact zL 2 (zK (CR hd hQ hS _ (by kernel_rfl)))
  ·exact jL (CR hd hQ hS)
/- (*farwriter/iac.receiver).flush -/
/- (*farwriter/iac.receiver).token -/
/- (*farwriter/iac.receiver).command -/
/- (*farwriter/iac.receiver).sub -/
/- (*farwriter/iac.receiver).end -/
/- (*farwriter/iac.receiver).take -/
/- farwriter/iac.Feed -/
/- farwriter/environ.Write$1 -/
def aAm(r:Bool)(e:PX)(st:St):Prop:=aU c51 0 ((dB r),[]) e st
def f51(a1:dA):Option (Bool):=(bif (decide (200<(a1.Name.length:Int))) then (some true) else (bif (decide (200<(a1.Value.length:Int))) then (some true) else (some false)))
theorem avH{d:Nat}(hd:1≤d){a1:dA}{r:Bool}(hS:f51 a1=some r):bZ ay aX d 51 [(.agg (Te a1))] []=some ((dB r),[]):=by
 refine cI hd (fun Q hQ=>?_) aoz
 unfold f51 at hS
 show ZR _ Q akt [] _
 replace hQ:FQ (aAm r) Q:=hQ
 refine zS (zL 2 (zK (zS (zL 3 (sB 6 hS (fun hS=>?_) (fun hS=>?_))))))
 ·exact nL hS hQ
 ·refine zL 4 (sB 11 hS (fun hS=>?_) (fun hS=>?_))
  ·exact nL hS hQ
  ·exact nL hS hQ
/- slices.IndexFunc[[]farwriter/api.Var,farwriter/api.Var] -/
def Tt(p8:Int):St:=⟨(up u0 4 (dI p8)),h0⟩
theorem ao2{p8:Int}:cN (Tt p8) 0 WM.res=some ((dI p8),[]):=by
 kernel_rfl
def aAn(r:Int)(e:PX)(st:St):Prop:=aU WM 0 ((dI r),[]) e st
def agQ(a1:List dA)(x:Int):St:=⟨(up (up (up (up u0 8 (dI x)) 7 (dI (a1.length:Int))) 1 (.fn 51 [])) 0 (dE cY a1)),h0⟩
def uV(a1:List dA)(x:Int)(st:St):Prop:=au [0,1,7,8] [] [] st=agQ a1 x
def DT(a1:List dA):St:=⟨u0,h0⟩
def Ay(a1:List dA)(z:Unit⊕Int)(e:PX)(st:St):Prop:=(match z with | .inl z=>e= .exit 0∧st=DT a1 | .inr z=>e= .ret∧dV WM.fin st=Tt z)
def Ql(a1:List dA)(fH:Int):St:=⟨(up (up (up (up u0 8 (dI fH)) 7 (dI (a1.length:Int))) 1 (.fn 51 [])) 0 (dE cY a1)),h0⟩
def wN(a1:List dA)(fH:Int):Option (Int⊕(Unit⊕Int)):=((idx a1 fH).bind fun z7=>((f51 z7).bind fun z8=>(bif z8 then (some (.inr (.inr fH))) else (some (.inl (IntKind.i64.wrap (fH+1)))))))
theorem Me(hd:2≤d){a1:List dA}{r:Int⊕(Unit⊕Int)}(hQ:FQ (bG (uV a1) (Ay a1) r) Q){fH:Int}(hS:wN a1 fH=some r): ∀st,au [0,1,7,8] [] [] st=Ql a1 fH→ZX d Q aku [] st:=by
 intro st he
 refine av he ?_
 unfold wN at hS
 refine aC (bw (zS (zL 2 (zK (zS (zL 3 (aq hS (fun z7 kO hS=>zO (v:=(.cD (cY.enc z7++(cY.cells (a1.drop ((fH:Int).toNat+1)))))) (aD:= []) (some 14) (.jc 118 4 (tm 12) (tm 13)) (eY cY (kk:= .i64) (xs:=a1) (j:=fH) (by kernel_rfl) (by kernel_rfl) kO rfl (by intro h;cases h)) (zL 1 (aq hS (fun z8 iW hS=>zO (v:=(dB z8)) (aD:= []) (some 16) (.lM (tm 11) [(tm 15)]) (ox (f:=51) (cs:= []) (by kernel_rfl) (args:= [(.agg (Te z7))]) (l:= [(.agg (Te z7))]) (r:=(dB z8)) (by kernel_rfl) (by kernel_rfl) (avH (aV hd rfl) iW) (by kernel_rfl) (by kernel_rfl) (by kernel_rfl)) (zK (sR 16 hS (fun hS=>?_) (fun hS=>?_))))))))))))))
 ·exact zT (zS (zL 2 (zK (cL (cj (bQ (bg (mG hS hQ))))))))
 ·exact lR hS hQ
def Qm(a1:List dA)(nM:Int)(uW:Bool):St:=⟨(up (up (up (up (up u0 9 (dB uW)) 8 (dI nM)) 7 (dI (a1.length:Int))) 1 (.fn 51 [])) 0 (dE cY a1)),h0⟩
def oJ(a1:List dA)(nM:Int)(uW:Bool):Option (Int⊕(Unit⊕Int)):=(bif uW then (wN a1 nM) else (some (.inr (.inl ()))))
theorem BH(hd:2≤d){a1:List dA}{r:Int⊕(Unit⊕Int)}(hQ:FQ (bG (uV a1) (Ay a1) r) Q){nM:Int}{uW:Bool}(hS:oJ a1 nM uW=some r): ∀st,au [0,1,7,8,9] [] [] st=Qm a1 nM uW→ZX d Q akv [] st:=by
 intro st he
 refine av he ?_
 unfold oJ at hS
 refine aC (sR 9 hS (fun hS=>?_) (fun hS=>?_))
 ·exact jR (Me hd hQ hS)
 ·exact zF (av (J:=DT a1) (by kernel_rfl) (cX (cV (bg (jw hS hQ)))))
def Az(a1:List dA)(x:Int):Option (Int⊕(Unit⊕Int)):=(bif (decide (x<(a1.length:Int))) then (oJ a1 x true) else (oJ a1 x false))
theorem Xh(hd:2≤d){a1:List dA}{r:Int⊕(Unit⊕Int)}(hQ:FQ (bG (uV a1) (Ay a1) r) Q){x:Int}(hS:Az a1 x=some r)(he:uV a1 x st):ZX d Q akw [] st:=by
 refine av he ?_
 unfold Az at hS
 refine zS (sB 9 hS (fun hS=>?_) (fun hS=>?_))
 ·exact zK (BH hd hQ hS _ (by kernel_rfl))
 ·exact jL (BH hd hQ hS)
def f84(a1:List dA):Option (Int):=((b9 (Az a1) 0).bind fun z9=>(Sum.elim (fun dh=>(some (-1))) (fun cM=>(some cM)) z9))
theorem avI{d:Nat}(hd:2≤d){a1:List dA}{r:Int}(hS:f84 a1=some r):bZ ay aX d 84 [(dE cY a1),(.fn 51 [])] []=some ((dI r),[]):=by
 refine cI hd (fun Q hQ=>?_) aoU
 unfold f84 at hS
 show ZR _ Q akx [] _
 replace hQ:FQ (aAn r) Q:=hQ
 refine zS (zL 1 (zK (aC (zS (zL 3 (zK (bw (aq hS (fun z9 jF hS=>dF (uV a1) (Ay a1) (fun x st r Q h0 hS hQ=>Xh hd hQ hS h0) (x:=0) (z:=z9) (by show au _ _ _ _=_;kernel_rfl) jF ?_)))))))))
 rcases z9 with dh | cM
 ·replace hS:=(show _=_ from hS)
  simp only [tD] at hS
  intro e bl _ hX
  obtain ⟨rfl,rfl⟩:_∧_:=hX
  exact nK hS hQ
 ·simp only [tE] at hS
  intro e bl _ hX
  obtain ⟨rfl,hX⟩:_∧_:=hX
  exact cj (bQ (bg (dW hS hQ (je (by kernel_rfl) ((congrArg (fun s=>cN s 0 WM.res) hX).trans ao2)))))
/- slices.ContainsFunc[[]farwriter/api.Var,farwriter/api.Var] -/
def aAo(r:Bool)(e:PX)(st:St):Prop:=aU c50 0 ((dB r),[]) e st
def f50(a1:List dA):Option (Bool):=((f84 a1).bind fun z2=>(bif (decide (0≤z2)) then (some true) else (some false)))
theorem avJ{d:Nat}(hd:3≤d){a1:List dA}{r:Bool}(hS:f50 a1=some r):bZ ay aX d 50 [(dE cY a1),(.fn 51 [])] []=some ((dB r),[]):=by
 refine cI hd (fun Q hQ=>?_) aoy
 unfold f50 at hS
 show ZR _ Q aky [] _
 replace hQ:FQ (aAo r) Q:=hQ
 refine zS (zL 1 (zK (zS (zL 2 (aq hS (fun z2 hz2 hS=>zC 7 (avI (aV hd rfl) hz2) (sB 8 hS (fun hS=>?_) (fun hS=>?_))))))))
 ·exact nL hS hQ
 ·exact nL hS hQ
/- farwriter/environ.escape -/
def aAp(r:S8)(e:PX)(st:St):Prop:=aU c52 1 ((.r (.aL 0 0 0 r.length)),[(.own 5 1 (cH.cells r))]) e st
def agR(a1 a2:S8)(x:S8×Int):St:=⟨(up (up (up (up (up u0 1000000 .un) 8 (dI x.2)) 7 (dI (a1.length:Int))) 1 (.d (.str a1))) 0 (.r (.aL 0 1 0 x.1.length))),(up h0 0 ⟨1,some (.own 5 1 (cH.cells x.1))⟩)⟩
def rC(a1 a2:S8)(x:S8×Int)(st:St):Prop:=au [0,1,7,8,1000000] [(0,.id 0)] [] st=agR a1 a2 x
def DU(a1 a2 nu:S8):St:=⟨(up (up u0 1000000 .un) 0 (.r (.aL 0 1 0 nu.length))),(up h0 0 ⟨1,some (.own 5 1 (cH.cells nu))⟩)⟩
def uX(a1 a2:S8)(z:(S8))(e:PX)(st:St):Prop:=e= .exit 0∧st=DU a1 a2 z
def Qn(a1 a2 iE:S8)(jG fS:Int):St:=⟨(up (up (up (up (up (up u0 1000000 .un) 8 (dI fS)) 7 (dI (a1.length:Int))) 5 (dI jG)) 1 (.d (.str a1))) 0 (.r (.aL 0 1 0 iE.length))),(up h0 0 ⟨1,some (.own 5 1 (cH.cells iE))⟩)⟩
def oK(a1 a2 iE:S8)(jG fS:Int):Option ((S8×Int)⊕((S8))):=((idx a1 jG).bind fun eZ=>((eP 1 iE ([eZ]:S8)).bind fun dx=>(some (.inl (dx,(IntKind.i64.wrap (fS+1)))))))
theorem BI(hd:1≤d){a1 a2:S8}{r:(S8×Int)⊕((S8))}(hQ:FQ (bG (rC a1 a2) (uX a1 a2) r) Q){iE:S8}{jG fS:Int}(hS:oK a1 a2 iE jG fS=some r): ∀st,au [0,1,5,7,8,1000000] [(0,.id 0)] [] st=Qn a1 a2 iE jG fS→ZX d Q akz [.blk 1,.seq akA] st:=by
 intro st he
 refine av he ?_
 unfold oK at hS
 exact a_ (zL 3 (aq hS (fun eZ lG hS=>zO (v:=(.d (.int .u8 (eZ.toNat:Int)))) (aD:= []) (some 21) (.iy (tm 19) (tm 20)) (fA (kk:= .i64) (s:=a1) (j:=jG) (by kernel_rfl) (by kernel_rfl) lG) (zL 1 (aq hS (fun dx ju hS=>zO (v:=(.r (.aL 0 2 0 dx.length))) (aD:= [(0,⟨2,some (.own 5 1 (cH.cells dx))⟩)]) (some 23) (.app 5 1 1 (tm 18) (tm 22)) (eM cH (b:=0) (g:=1) (n:=iE.length) (xs:=iE) (ys:= [eZ]) ((congrArg (fP _) (by kernel_rfl:b8 _ (.tmp 22)=(.r (.aL 184 1 0 (([eZ]:S8).length))))).trans (cZ cH (e:=5) (k:=1) (xs:= [eZ]) (by kernel_rfl) rfl rfl)) rfl (by kernel_rfl) rfl (by kernel_rfl) rfl ju) (lL hS hQ)))))))
def Qo(a1 a2 HR:S8)(lS:Int):St:=⟨(up (up (up (up (up u0 1000000 .un) 8 (dI lS)) 7 (dI (a1.length:Int))) 1 (.d (.str a1))) 0 (.r (.aL 0 1 0 HR.length))),(up h0 0 ⟨1,some (.own 5 1 (cH.cells HR))⟩)⟩
def wO(a1 a2 HR:S8)(lS:Int):Option ((S8×Int)⊕((S8))):=((idx a1 lS).bind fun f_=>(bif (decide ((f_.toNat:Int)≤3)) then ((eP 1 HR ([2]:S8)).bind fun gb=>(oK a1 a2 gb lS lS)) else (oK a1 a2 HR lS lS)))
theorem Mg(hd:1≤d){a1 a2:S8}{r:(S8×Int)⊕((S8))}(hQ:FQ (bG (rC a1 a2) (uX a1 a2) r) Q){HR:S8}{lS:Int}(hS:wO a1 a2 HR lS=some r): ∀st,au [0,1,7,8,1000000] [(0,.id 0)] [] st=Qo a1 a2 HR lS→ZX d Q akB [] st:=by
 intro st he
 refine av he ?_
 unfold wO at hS
 refine aC (bw (zS (zL 2 (zK (aC (zS (zL 2 (aq hS (fun f_ lH hS=>zO (v:=(.d (.int .u8 (f_.toNat:Int)))) (aD:= []) (some 13) (.iy (tm 11) (tm 12)) (fA (kk:= .i64) (s:=a1) (j:=lS) (by kernel_rfl) (by kernel_rfl) lH) (sB 14 hS (fun hS=>?_) (fun hS=>?_)))))))))))
 ·exact zK (zT (a_ (zL 2 (aq hS (fun gb nN hS=>zO (v:=(.r (.aL 0 2 0 gb.length))) (aD:= [(0,⟨2,some (.own 5 1 (cH.cells gb))⟩)]) (some 17) (.app 5 1 1 (tm 15) (tm 16)) (eM cH (b:=0) (g:=1) (n:=HR.length) (xs:=HR) (ys:= [2]) ((congrArg (fP _) (by kernel_rfl:b8 _ (.tmp 16)=(.r (.aL 136 1 0 (([2]:S8).length))))).trans (cZ cH (e:=5) (k:=1) (xs:= [2]) (by kernel_rfl) rfl rfl)) rfl (by kernel_rfl) rfl (by kernel_rfl) rfl nN) (zL 1 (zK (BI hd hQ hS _ (by kernel_rfl)))))))))
 ·exact jL (BI hd hQ hS)
def Qp(a1 a2 nv:S8)(gU:Int)(FV:Bool):St:=⟨(up (up (up (up (up (up u0 1000000 .un) 9 (dB FV)) 8 (dI gU)) 7 (dI (a1.length:Int))) 1 (.d (.str a1))) 0 (.r (.aL 0 1 0 nv.length))),(up h0 0 ⟨1,some (.own 5 1 (cH.cells nv))⟩)⟩
def oM(a1 a2 nv:S8)(gU:Int)(FV:Bool):Option ((S8×Int)⊕((S8))):=(bif FV then (wO a1 a2 nv gU) else (some (.inr nv)))
theorem BJ(hd:1≤d){a1 a2:S8}{r:(S8×Int)⊕((S8))}(hQ:FQ (bG (rC a1 a2) (uX a1 a2) r) Q){nv:S8}{gU:Int}{FV:Bool}(hS:oM a1 a2 nv gU FV=some r): ∀st,au [0,1,7,8,9,1000000] [(0,.id 0)] [] st=Qp a1 a2 nv gU FV→ZX d Q akC [] st:=by
 intro st he
 refine av he ?_
 unfold oM at hS
 refine aC (sR 9 hS (fun hS=>?_) (fun hS=>?_))
 ·exact jR (Mg hd hQ hS)
 ·exact zF (av (J:=DU a1 a2 nv) (by kernel_rfl) (cX (cV (bg (jw hS hQ)))))
def DV(a1 a2:S8)(x:S8×Int):Option ((S8×Int)⊕((S8))):=(bif (decide (x.2<(a1.length:Int))) then (oM a1 a2 x.1 x.2 true) else (oM a1 a2 x.1 x.2 false))
theorem Xi(hd:1≤d){a1 a2:S8}{r:(S8×Int)⊕((S8))}(hQ:FQ (bG (rC a1 a2) (uX a1 a2) r) Q){x:S8×Int}(hS:DV a1 a2 x=some r)(he:rC a1 a2 x st):ZX d Q akD [] st:=by
 refine av he ?_
 unfold DV at hS
 refine zS (sB 9 hS (fun hS=>?_) (fun hS=>?_))
 ·exact zK (BJ hd hQ hS _ (by kernel_rfl))
 ·exact jL (BJ hd hQ hS)
def f52(a1 a2:S8):Option (S8):=((b9 (DV a1 a2) (a2,0)).bind fun gS=>(some gS))
theorem adR{d:Nat}(hd:1≤d){a1 a2 r:S8}(hS:f52 a1 a2=some r):bZ ay aX d 52 [(.r (.aL 0 0 0 a2.length)),(.d (.str a1))] [(.own 5 1 (cH.cells a2))]=some ((.r (.aL 0 0 0 r.length)),[(.own 5 1 (cH.cells r))]):=by
 refine cI hd (fun Q hQ=>?_) aoA
 unfold f52 at hS
 show ZR _ Q akE [] _
 replace hQ:FQ (aAp r) Q:=hQ
 refine zS (zL 1 (zK (aC (zS (zL 3 (zK (bw (aq hS (fun gS qM hS=>dF (rC a1 a2) (uX a1 a2) (fun x st r Q h0 hS hQ=>Xi hd hQ hS h0) (x:=(a2,0)) (z:=gS) (by show au _ _ _ _=_;kernel_rfl) qM ?_)))))))))
 intro e bl _ hX
 obtain ⟨rfl,rfl⟩:_∧_:=hX
 exact nK hS hQ
/- farwriter/environ.Write -/
def Tu(tG:S8)(Kh:Int):St:=⟨(up (up u0 3 (dI Kh)) 2 (.d (.str tG))),h0⟩
theorem ao3{tG:S8}{Kh:Int}:cN (Tu tG Kh) 0 c18.res=some ((.bH [(.d (.str tG)),(dI Kh)]),[]):=by
 kernel_rfl
def ao4(r:S8×Int)(e:PX)(st:St):Prop:=aU c18 0 ((.bH [(.d (.str r.1)),(dI r.2)]),[]) e st
def agS(a1:List dA)(x:S8×Int):St:=⟨(up (up (up (up u0 17 (dI x.2)) 16 (dI (a1.length:Int))) 15 (dE cY a1)) 4 (.r (.aL 40 0 0 x.1.length))),(up h0 40 ⟨0,some (.own 5 1 (cH.cells x.1))⟩)⟩
def oN(a1:List dA)(x:S8×Int)(st:St):Prop:=au [4,15,16,17] [(40,.id 40)] [] st=agS a1 x
def DW(a1:List dA)(nI:S8):St:=⟨(up u0 4 (.r (.aL 40 0 0 nI.length))),(up h0 40 ⟨0,some (.own 5 1 (cH.cells nI))⟩)⟩
def rD(a1:List dA)(z:(S8)⊕(S8×Int))(e:PX)(st:St):Prop:=(match z with | .inl z=>e= .exit 0∧st=DW a1 z | .inr z=>e= .ret∧dV c18.fin st=Tu z.1 z.2)
def Qq(a1:List dA)(Qr:S8)(Tv:dA)(Qs:UInt8)(y2:Int):St:=⟨(up (up (up (up (up (up u0 17 (dI y2)) 16 (dI (a1.length:Int))) 15 (dE cY a1)) 7 (.d (.int .u8 (Qs.toNat:Int)))) 6 (pt 56)) 4 (.r (.aL 40 0 0 Qr.length))),(up (up h0 56 ⟨0,some (.box (Te Tv))⟩) 40 ⟨0,some (.own 5 1 (cH.cells Qr))⟩)⟩
def oO(a1:List dA)(Qr:S8)(Tv:dA)(Qs:UInt8)(y2:Int):Option ((S8×Int)⊕((S8)⊕(S8×Int))):=((eP 1 Qr ([Qs]:S8)).bind fun gS=>((f52 Tv.Name gS).bind fun z20=>(bif Tv.Set then ((eP 1 z20 ([1]:S8)).bind fun z21=>((f52 Tv.Value z21).bind fun z22=>(some (.inl (z22,(IntKind.i64.wrap (y2+1))))))) else (some (.inl (z20,(IntKind.i64.wrap (y2+1))))))))
theorem BK(hd:4≤d){a1:List dA}{r:(S8×Int)⊕((S8)⊕(S8×Int))}(hQ:FQ (bG (oN a1) (rD a1) r) Q){Qr:S8}{Tv:dA}{Qs:UInt8}{y2:Int}(hS:oO a1 Qr Tv Qs y2=some r): ∀st,au [4,6,7,15,16,17] [(40,.id 40),(56,.id 56)] [] st=Qq a1 Qr Tv Qs y2→ZX d Q akF [.blk 1,.seq WN] st:=by
 intro st he
 refine av he ?_
 unfold oO at hS
 refine aC (cG (cy 3 (aq hS (fun gS qM hS=>di (v:=(.r (.aL 40 1 0 gS.length))) (aD:= [(40,⟨1,some (.own 5 1 (cH.cells gS))⟩)]) (some 34) none (.app 5 1 1 (tm 31) (tm 33)) (eM cH (b:=40) (g:=0) (n:=Qr.length) (xs:=Qr) (ys:= [Qs]) ((congrArg (fP _) (by kernel_rfl:b8 _ (.tmp 33)=(.r (.aL 272 1 0 (([Qs]:S8).length))))).trans (cZ cH (e:=5) (k:=1) (xs:= [Qs]) (by kernel_rfl) rfl rfl)) rfl (by kernel_rfl) rfl (by kernel_rfl) rfl qM) (cy 2 (aq hS (fun z20 qN hS=>di (some 37) none (.fU 52 [(tm 34),(tm 36)]) (P9 [40] (adR (aV hd rfl) qN)) (cy 1 (fG (cq (zS (zL 2 (zK (sR 39 hS (fun hS=>?_) (fun hS=>?_)))))))))))))))
 ·exact zT (cG (cy 2 (aq hS (fun z21 p_ hS=>di (v:=(.r (.aL 40 3 0 z21.length))) (aD:= [(40,⟨3,some (.own 5 1 (cH.cells z21))⟩)]) (some 42) none (.app 5 1 1 (tm 40) (tm 41)) (eM cH (b:=40) (g:=2) (n:=z20.length) (xs:=z20) (ys:= [1]) ((congrArg (fP _) (by kernel_rfl:b8 _ (.tmp 41)=(.r (.aL 336 1 0 (([1]:S8).length))))).trans (cZ cH (e:=5) (k:=1) (xs:= [1]) (by kernel_rfl) rfl rfl)) rfl (by kernel_rfl) rfl (by kernel_rfl) rfl p_) (cy 2 (aq hS (fun z22 GJ hS=>di (some 45) none (.fU 52 [(tm 42),(tm 44)]) (P9 [40] (adR (aV hd rfl) GJ)) (cy 1 (fG (lK hS hQ))))))))))
 ·exact lR hS hQ
def Qt(a1:List dA)(Tw:S8)(Tx:dA)(DX:Int):St:=⟨(up (up (up (up (up u0 17 (dI DX)) 16 (dI (a1.length:Int))) 15 (dE cY a1)) 6 (pt 56)) 4 (.r (.aL 40 0 0 Tw.length))),(up (up h0 56 ⟨0,some (.box (Te Tx))⟩) 40 ⟨0,some (.own 5 1 (cH.cells Tw))⟩)⟩
def oP(a1:List dA)(Tw:S8)(Tx:dA)(DX:Int):Option ((S8×Int)⊕((S8)⊕(S8×Int))):=(bif Tx.aaf then (oO a1 Tw Tx (3:UInt8) DX) else (oO a1 Tw Tx (0:UInt8) DX))
theorem BL(hd:4≤d){a1:List dA}{r:(S8×Int)⊕((S8)⊕(S8×Int))}(hQ:FQ (bG (oN a1) (rD a1) r) Q){Tw:S8}{Tx:dA}{DX:Int}(hS:oP a1 Tw Tx DX=some r): ∀st,au [4,6,15,16,17] [(40,.id 40),(56,.id 56)] [] st=Qt a1 Tw Tx DX→ZX d Q akG [.blk 1,.seq WN] st:=by
 intro st he
 refine av he ?_
 unfold oP at hS
 refine zS (zL 1 (zK (aC (zS (zL 2 (zK (sR 30 hS (fun hS=>?_) (fun hS=>?_))))))))
 ·exact zT (a_ (zL 1 (zK (BK hd hQ hS _ (by kernel_rfl)))))
 ·exact jR (BK hd hQ hS)
def Qu(a1:List dA)(iX:S8)(iw:Int):St:=⟨(up (up (up (up u0 17 (dI iw)) 16 (dI (a1.length:Int))) 15 (dE cY a1)) 4 (.r (.aL 40 0 0 iX.length))),(up h0 40 ⟨0,some (.own 5 1 (cH.cells iX))⟩)⟩
def wP(a1:List dA)(iX:S8)(iw:Int):Option ((S8×Int)⊕((S8)⊕(S8×Int))):=((idx a1 iw).bind fun gb=>(bif (!gb.Set) then (bif (!decide (gb.Value=([]:S8))) then (some (.inr (.inr ([],4)))) else (oP a1 iX gb iw)) else (oP a1 iX gb iw)))
theorem Mh(hd:4≤d){a1:List dA}{r:(S8×Int)⊕((S8)⊕(S8×Int))}(hQ:FQ (bG (oN a1) (rD a1) r) Q){iX:S8}{iw:Int}(hS:wP a1 iX iw=some r): ∀st,au [4,15,16,17] [(40,.id 40)] [] st=Qu a1 iX iw→ZX d Q akH [] st:=by
 intro st he
 refine av he ?_
 unfold wP at hS
 refine aC (bw (zS (aq hS (fun gb nN hS=>zO (v:=(.cD (cY.enc gb++(cY.cells (a1.drop ((iw:Int).toNat+1)))))) (aD:= []) (some 19) (.jc 118 4 (tm 15) (tm 17)) (eY cY (kk:= .i64) (xs:=a1) (j:=iw) (by kernel_rfl) (by kernel_rfl) nN rfl (by intro h;cases h)) (zL 3 (zK (aC (zS (zL 4 (sL 24 hS (fun hS=>?_) (fun hS=>?_)))))))))))
 ·refine zL 2 (sB 27 hS (fun hS=>?_) (fun hS=>?_))
  ·exact zL 1 (zK (zT (zS (zL 2 (zK (cL (bQ (cj (bQ (bg (mG hS hQ)))))))))))
  ·exact jL (BL hd hQ hS)
 ·exact jL (BL hd hQ hS)
def Qv(a1:List dA)(fj:S8)(gf:Int)(jH:Bool):St:=⟨(up (up (up (up (up u0 18 (dB jH)) 17 (dI gf)) 16 (dI (a1.length:Int))) 15 (dE cY a1)) 4 (.r (.aL 40 0 0 fj.length))),(up h0 40 ⟨0,some (.own 5 1 (cH.cells fj))⟩)⟩
def oQ(a1:List dA)(fj:S8)(gf:Int)(jH:Bool):Option ((S8×Int)⊕((S8)⊕(S8×Int))):=(bif jH then (wP a1 fj gf) else (some (.inr (.inl fj))))
theorem BM(hd:4≤d){a1:List dA}{r:(S8×Int)⊕((S8)⊕(S8×Int))}(hQ:FQ (bG (oN a1) (rD a1) r) Q){fj:S8}{gf:Int}{jH:Bool}(hS:oQ a1 fj gf jH=some r): ∀st,au [4,15,16,17,18] [(40,.id 40)] [] st=Qv a1 fj gf jH→ZX d Q akI [] st:=by
 intro st he
 refine av he ?_
 unfold oQ at hS
 refine aC (sR 18 hS (fun hS=>?_) (fun hS=>?_))
 ·exact jR (Mh hd hQ hS)
 ·exact zF (av (J:=DW a1 fj) (by kernel_rfl) (cX (cV (bg (jw hS hQ)))))
def DY(a1:List dA)(x:S8×Int):Option ((S8×Int)⊕((S8)⊕(S8×Int))):=(bif (decide (x.2<(a1.length:Int))) then (oQ a1 x.1 x.2 true) else (oQ a1 x.1 x.2 false))
theorem Xj(hd:4≤d){a1:List dA}{r:(S8×Int)⊕((S8)⊕(S8×Int))}(hQ:FQ (bG (oN a1) (rD a1) r) Q){x:S8×Int}(hS:DY a1 x=some r)(he:oN a1 x st):ZX d Q akJ [] st:=by
 refine av he ?_
 unfold DY at hS
 refine zS (sB 18 hS (fun hS=>?_) (fun hS=>?_))
 ·exact zK (BM hd hQ hS _ (by kernel_rfl))
 ·exact jL (BM hd hQ hS)
def agT(a1:List dA):St:=⟨(up u0 0 (dE cY a1)),h0⟩
def Io(a1:List dA):Option (S8×Int):=((b9 (DY a1) ([],0)).bind fun z23=>(Sum.elim (fun z24=>(some (z24,0))) (fun z25=>(some (z25.1,z25.2))) z23))
theorem Xk(hd:4≤d){a1:List dA}{r:S8×Int}(hQ:FQ (ao4 r) Q)(hS:Io a1=some r): ∀st,au [0] [] [] st=agT a1→ZX d Q akK [] st:=by
 intro st he
 refine av he ?_
 unfold Io at hS
 refine zS (zL 1 (zK (aC (zS (zL 3 (zK (bw (aq hS (fun z23 y5 hS=>dF (oN a1) (rD a1) (fun x st r Q h0 hS hQ=>Xj hd hQ hS h0) (x:=([],0)) (z:=z23) (by show au _ _ _ _=_;kernel_rfl) y5 ?_)))))))))
 rcases z23 with z24 | z25
 ·replace hS:=(show _=_ from hS)
  simp only [tD] at hS
  intro e bl _ hX
  obtain ⟨rfl,rfl⟩:_∧_:=hX
  exact kq (cq (zS (zL 1 (zO (v:=(.d (.str z24))) (aD:= []) (some 48) (.tI (tm 47)) (DI (s:=z24) ((congrArg (fP _) (by kernel_rfl:b8 _ (.tmp 47)=(.r (.aL 40 0 0 z24.length)))).trans (cZ cH (e:=5) (k:=1) (xs:=z24) (by kernel_rfl) rfl rfl)) rfl) (nL hS hQ)))))
 ·simp only [tE] at hS
  intro e bl _ hX
  obtain ⟨rfl,hX⟩:_∧_:=hX
  exact cj (bQ (bg (dW hS hQ (je (by kernel_rfl) ((congrArg (fun s=>cN s 0 c18.res) hX).trans ao3)))))
def f18(a1:List dA):Option (S8×Int):=(bif (decide (20<(a1.length:Int))) then (some ([],2)) else ((f50 a1).bind fun z26=>(bif z26 then (some ([],2)) else (Io a1))))
theorem avK{d:Nat}(hd:4≤d){a1:List dA}{r:S8×Int}(hS:f18 a1=some r):bZ ay aX d 18 [(dE cY a1)] []=some ((.bH [(.d (.str r.1)),(dI r.2)]),[]):=by
 refine cI hd (fun Q hQ=>?_) aob
 unfold f18 at hS
 show ZR _ Q akL [] _
 replace hQ:FQ (ao4 r) Q:=hQ
 refine zS (zL 2 (zK (aC (zS (zL 2 (sB 10 hS (fun hS=>?_) (fun hS=>?_)))))))
 ·exact nL hS hQ
 ·refine zL 2 (aq hS (fun z26 uY hS=>zG (some 13) 11 false (.call 50 [(tm 12),(.func 51)]) (b_ (avJ (aV hd rfl) uY)) (zL 1 (zK (sR 14 hS (fun hS=>?_) (fun hS=>?_))))))
  ·exact nR hS hQ
  ·exact jR (Xk hd hQ hS)
/- farwriter/utf.need -/
def Xl(r:Int×UInt8×UInt8)(e:PX)(st:St):Prop:=aU c85 0 ((.bH [(dI r.1),(.d (.int .u8 (r.2.1.toNat:Int))),(.d (.int .u8 (r.2.2.toNat:Int)))]),[]) e st
def agU(a1:UInt8):St:=⟨(up u0 0 (.d (.int .u8 (a1.toNat:Int)))),h0⟩
def AA(a1:UInt8):Option (Int×UInt8×UInt8):=(bif (decide ((a1.toNat:Int)=240)) then (some (3,(144:UInt8),(191:UInt8))) else (bif (decide ((a1.toNat:Int)=244)) then (some (3,(128:UInt8),(143:UInt8))) else (bif (decide (241≤(a1.toNat:Int))) then (bif (decide ((a1.toNat:Int)≤243)) then (some (3,(128:UInt8),(191:UInt8))) else (some (0,(0:UInt8),(0:UInt8)))) else (some (0,(0:UInt8),(0:UInt8))))))
theorem Ki(hd:1≤d){a1:UInt8}{r:Int×UInt8×UInt8}(hQ:FQ (Xl r) Q)(hS:AA a1=some r): ∀st,au [0] [] [] st=agU a1→ZX d Q akM [.blk 0,.seq WO] st:=by
 intro st he
 refine av he ?_
 unfold AA at hS
 refine zS (zL 1 (sB 27 hS (fun hS=>?_) (fun hS=>?_)))
 ·exact nL hS hQ
 ·refine zL 1 (zK (zF (zS (zL 1 (sB 30 hS (fun hS=>?_) (fun hS=>?_))))))
  ·exact nL hS hQ
  ·refine zL 1 (zK (zF (zS (zL 1 (sB 33 hS (fun hS=>?_) (fun hS=>?_))))))
   ·refine zL 2 (sB 36 hS (fun hS=>?_) (fun hS=>?_))
    ·exact nL hS hQ
    ·exact nL hS hQ
   ·exact nL hS hQ
def agV(a1:UInt8):St:=⟨(up u0 0 (.d (.int .u8 (a1.toNat:Int)))),h0⟩
def AB(a1:UInt8):Option (Int×UInt8×UInt8):=(bif (decide ((a1.toNat:Int)=224)) then (some (2,(160:UInt8),(191:UInt8))) else (bif (decide ((a1.toNat:Int)=237)) then (some (2,(128:UInt8),(159:UInt8))) else (bif (decide (225≤(a1.toNat:Int))) then (bif (decide ((a1.toNat:Int)≤239)) then (some (2,(128:UInt8),(191:UInt8))) else (AA a1)) else (AA a1))))
theorem Kj(hd:1≤d){a1:UInt8}{r:Int×UInt8×UInt8}(hQ:FQ (Xl r) Q)(hS:AB a1=some r): ∀st,au [0] [] [] st=agV a1→ZX d Q akN [.blk 0,.seq WO] st:=by
 intro st he
 refine av he ?_
 unfold AB at hS
 refine zS (zL 1 (sB 14 hS (fun hS=>?_) (fun hS=>?_)))
 ·exact nL hS hQ
 ·refine zL 1 (zK (zF (zS (zL 1 (sB 17 hS (fun hS=>?_) (fun hS=>?_))))))
  ·exact nL hS hQ
  ·refine zL 1 (zK (zF (zS (zL 1 (sB 20 hS (fun hS=>?_) (fun hS=>?_))))))
   ·refine zL 2 (sB 23 hS (fun hS=>?_) (fun hS=>?_))
    ·exact nL hS hQ
    ·exact zL 2 (zK (zF (Ki hd hQ hS _ (by kernel_rfl))))
   ·exact jL (Ki hd hQ hS)
def f85(a1:UInt8):Option (Int×UInt8×UInt8):=(bif (decide (194≤(a1.toNat:Int))) then (bif (decide ((a1.toNat:Int)≤223)) then (some (1,(128:UInt8),(191:UInt8))) else (AB a1)) else (AB a1))
theorem avM{d:Nat}(hd:1≤d){a1:UInt8}{r:Int×UInt8×UInt8}(hS:f85 a1=some r):bZ ay aX d 85 [(.d (.int .u8 (a1.toNat:Int)))] []=some ((.bH [(dI r.1),(.d (.int .u8 (r.2.1.toNat:Int))),(.d (.int .u8 (r.2.2.toNat:Int)))]),[]):=by
 refine cI hd (fun Q hQ=>?_) aoV
 unfold f85 at hS
 show ZR _ Q akO [] _
 replace hQ:FQ (Xl r) Q:=hQ
 refine zS (zL 3 (zK (aC (bw (zS (zL 1 (sB 7 hS (fun hS=>?_) (fun hS=>?_))))))))
 ·refine zL 2 (sB 10 hS (fun hS=>?_) (fun hS=>?_))
  ·exact nL hS hQ
  ·exact zL 2 (zK (zF (Kj hd hQ hS _ (by kernel_rfl))))
 ·exact jL (Kj hd hQ hS)
end
end Go.Proofs.YtimbfadnabfabaaGreatDoor.Pm
