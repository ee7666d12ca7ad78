/- Typed functions, and that the codes are these. Printed by dec.py. -/
import Derived.Test.YtimbfadnabfabaaGreatDoorDMoC
namespace Go.Proofs.YtimbfadnabfabaaGreatDoor.Pm
noncomputable section
set_option maxRecDepth 1000000
set_option maxHeartbeats 20000000
set_option linter.unusedVariables false
set_option linter.unusedSimpArgs false
variable {d : Nat} {Q : PQ} {st : St}
/- farwriter/iac.Check -/
def Pu(r:Int)(e:PX)(st:St):Prop:=aV c19 0 ((dI r),[]) e st
def afa(a1:jY)(mY sP:Bool):St:=⟨(up (up (up u0 4 (dB sP)) 3 (dB mY)) 1 (pt 16)),(up h0 16 ⟨0,some (.box (Zz a1))⟩)⟩
def oF(a1:jY)(mY sP:Bool):Option (Int):=(bif mY then (bif sP then (bif (decide (0≤a1.BN)) then (bif (decide (a1.BN≤255)) then (bif (decide ((a1.pM.length:Int)≤4096)) then (bif (!a1.Over) then (some 0) else (bif (decide (a1.pM=([]:S8))) then (some 0) else (some 4))) else (some 4)) else (some 4)) else (some 4)) else (some 4)) else (bif sP then (bif (decide (a1.BN=0)) then (bif (decide (a1.pM=([]:S8))) then (bif (!(!a1.Over)) then (some 4) else (some 0)) else (some 4)) else (some 4)) else (some 4)))
theorem l7(hd:1≤d){a1:jY}{r:Int}(hQ:FQ (Pu r) Q){mY sP:Bool}(hS:oF a1 mY sP=some r): ∀st,au [1,3,4] [(16,.id 16)] [] st=afa a1 mY sP→ZX d Q aiE [] st:=by
 intro st he
 refine ay he (aC (zS (zL 1 (zK (sR 41 hS (fun hS=>?_) (fun hS=>?_))))))
 ·refine zT (a_ (zL 2 (sL 43 hS (fun hS=>?_) (fun hS=>?_))))
  ·refine zL 2 (sB 46 hS (fun hS=>?_) (fun hS=>?_))
   ·refine zL 4 (sB 51 hS (fun hS=>?_) (fun hS=>?_))
    ·refine zL 5 (sB 57 hS (fun hS=>?_) (fun hS=>?_))
     ·refine zL 6 (sL 63 hS (fun hS=>?_) (fun hS=>?_))
      ·exact nL hS hQ
      ·refine zL 2 (sB 66 hS (fun hS=>?_) (fun hS=>?_))
       ·exact nL hS hQ
       ·exact nL hS hQ
     ·exact nL hS hQ
    ·exact nL hS hQ
   ·exact nL hS hQ
  ·exact nL hS hQ
 ·refine zF (a_ (zL 2 (sL 70 hS (fun hS=>?_) (fun hS=>?_))))
  ·refine zL 2 (sB 73 hS (fun hS=>?_) (fun hS=>?_))
   ·refine zL 4 (sB 78 hS (fun hS=>?_) (fun hS=>?_))
    ·refine zL 7 (zK (aC (zS (zL 2 (zK (sR 86 hS (fun hS=>?_) (fun hS=>?_)))))))
     ·exact nR hS hQ
     ·exact nR hS hQ
    ·exact nL hS hQ
   ·exact nL hS hQ
  ·exact nL hS hQ
def afb(a1:jY)(kQ dZ:Bool):St:=⟨(up (up (up u0 4 (dB dZ)) 3 (dB kQ)) 1 (pt 16)),(up h0 16 ⟨0,some (.box (Zz a1))⟩)⟩
def zg(a1:jY)(kQ dZ:Bool):Option (Int):=(bif (decide (a1.Mode=2)) then (bif dZ then (bif (decide (251≤a1.GQ)) then (bif (decide (a1.GQ≤254)) then (oF a1 kQ true) else (oF a1 kQ false)) else (oF a1 kQ false)) else (oF a1 kQ false)) else (bif dZ then (bif (decide (a1.GQ=0)) then (oF a1 kQ true) else (oF a1 kQ false)) else (oF a1 kQ false)))
theorem BP(hd:1≤d){a1:jY}{r:Int}(hQ:FQ (Pu r) Q){kQ dZ:Bool}(hS:zg a1 kQ dZ=some r): ∀st,au [1,3,4] [(16,.id 16)] [] st=afb a1 kQ dZ→ZX d Q aiF [] st:=by
 intro st he
 refine ay he (aC (zS (zL 2 (sB 23 hS (fun hS=>?_) (fun hS=>?_)))))
 ·refine zK (zT (a_ (zL 2 (sL 25 hS (fun hS=>?_) (fun hS=>?_)))))
  ·refine zL 2 (sB 28 hS (fun hS=>?_) (fun hS=>?_))
   ·refine zL 4 (sB 33 hS (fun hS=>?_) (fun hS=>?_))
    ·exact zL 2 (zK (l7 hd hQ hS _ (by kernel_rfl)))
    ·exact zL 2 (zK (l7 hd hQ hS _ (by kernel_rfl)))
   ·exact zL 7 (zK (l7 hd hQ hS _ (by kernel_rfl)))
  ·exact zL 10 (zK (l7 hd hQ hS _ (by kernel_rfl)))
 ·refine zK (zF (a_ (zL 2 (sL 36 hS (fun hS=>?_) (fun hS=>?_)))))
  ·refine zL 2 (sB 39 hS (fun hS=>?_) (fun hS=>?_))
   ·exact zL 2 (zK (l7 hd hQ hS _ (by kernel_rfl)))
   ·exact zL 2 (zK (l7 hd hQ hS _ (by kernel_rfl)))
  ·exact jL (l7 hd hQ hS)
def afc(a1:jY)(oX:Bool):St:=⟨(up (up u0 3 (dB oX)) 1 (pt 16)),(up h0 16 ⟨0,some (.box (Zz a1))⟩)⟩
def zh(a1:jY)(oX:Bool):Option (Int):=(bif (decide (0≤a1.Mode)) then (bif (decide (a1.Mode≤5)) then (zg a1 oX true) else (zg a1 oX false)) else (zg a1 oX false))
theorem BQ(hd:1≤d){a1:jY}{r:Int}(hQ:FQ (Pu r) Q){oX:Bool}(hS:zh a1 oX=some r): ∀st,au [1,3] [(16,.id 16)] [] st=afc a1 oX→ZX d Q aiG [] st:=by
 intro st he
 refine ay he (zS (zL 2 (sB 15 hS (fun hS=>?_) (fun hS=>?_))))
 ·refine zL 3 (sB 19 hS (fun hS=>?_) (fun hS=>?_))
  ·exact zL 2 (zK (BP hd hQ hS _ (by kernel_rfl)))
  ·exact zL 2 (zK (BP hd hQ hS _ (by kernel_rfl)))
 ·exact jL (BP hd hQ hS)
def f19(a1:jY):Option (Int):=(bif (decide (a1.Mode=4)) then (zh a1 true) else (bif (decide (a1.Mode=5)) then (zh a1 true) else (zh a1 false)))
theorem atK{d:Nat}(hd:1≤d){a1:jY}{r:Int}(hS:f19 a1=some r):bW av aX d 19 [(.agg (Zz a1))] []=some ((dI r),[]):=by
 refine cL Pu hd (fun Q hQ=>?_) alv
 refine zS (zL 2 (zK (zS (zL 2 (sB 7 hS (fun hS=>?_) (fun hS=>?_))))))
 ·exact zL 6 (zK (BQ hd hQ hS _ (by kernel_rfl)))
 ·refine zL 3 (sB 11 hS (fun hS=>?_) (fun hS=>?_))
  ·exact zL 2 (zK (BQ hd hQ hS _ (by kernel_rfl)))
  ·exact jL (BQ hd hQ hS)
/- (*farwriter/iac.receiver).flush -/
/- (*farwriter/iac.receiver).token -/
/- (*farwriter/iac.receiver).command -/
/- (*farwriter/iac.receiver).sub -/
/- (*farwriter/iac.receiver).end -/
/- (*farwriter/iac.receiver).take -/
/- farwriter/iac.Feed -/
/- farwriter/environ.Write$1 -/
def azb(r:Bool)(e:PX)(st:St):Prop:=aV c51 0 ((dB r),[]) e st
def f51(a1:dD):Option (Bool):=(bif (decide (200<(a1.Name.length:Int))) then (some true) else (bif (decide (200<(a1.Value.length:Int))) then (some true) else (some false)))
theorem atL{d:Nat}(hd:1≤d){a1:dD}{r:Bool}(hS:f51 a1=some r):bW av aX d 51 [(.agg (SB a1))] []=some ((dB r),[]):=by
 refine cL azb hd (fun Q hQ=>?_) alO
 refine zS (zL 2 (zK (zS (zL 3 (sB 6 hS (fun hS=>?_) (fun hS=>?_))))))
 ·exact nL hS hQ
 ·refine zL 4 (sB 11 hS (fun hS=>?_) (fun hS=>?_))
  ·exact nL hS hQ
  ·exact nL hS hQ
/- slices.IndexFunc[[]farwriter/api.Var,farwriter/api.Var] -/
def SQ(p8:Int):St:=⟨(up u0 4 (dI p8)),h0⟩
theorem amg{p8:Int}:cP (SQ p8) 0 Wd.res=some ((dI p8),[]):=by
 kernel_rfl
def azc(r:Int)(e:PX)(st:St):Prop:=aV Wd 0 ((dI r),[]) e st
def afd(a1:List dD)(x:Int):St:=⟨(up (up (up (up u0 8 (dI x)) 7 (dI (a1.length:Int))) 1 (.fn 51 [])) 0 (dE cW a1)),h0⟩
def ug(a1:List dD)(x:Int)(st:St):Prop:=au [0,1,7,8] [] [] st=afd a1 x
def C7(a1:List dD):St:=⟨u0,h0⟩
def zi(a1:List dD)(z:Unit⊕Int)(e:PX)(st:St):Prop:=(match z with | .inl z=>e= .exit 0∧st=C7 a1 | .inr z=>e= .ret∧dY Wd.fin st=SQ z)
def Pv(a1:List dD)(gq:Int):St:=⟨(up (up (up (up u0 8 (dI gq)) 7 (dI (a1.length:Int))) 1 (.fn 51 [])) 0 (dE cW a1)),h0⟩
def BR(a1:List dD)(gq:Int):Option (Int⊕(Unit⊕Int)):=((idx a1 gq).bind fun z7=>((f51 z7).bind fun z8=>(bif z8 then (some (.inr (.inr gq))) else (some (.inl (IntKind.i64.wrap (gq+1)))))))
theorem Lm(hd:2≤d){a1:List dD}{r:Int⊕(Unit⊕Int)}(hQ:FQ (bG (ug a1) (zi a1) r) Q){gq:Int}(hS:BR a1 gq=some r): ∀st,au [0,1,7,8] [] [] st=Pv a1 gq→ZX d Q aiN [] st:=by
 intro st he
 refine ay he (aC (bz (zS (zL 2 (zK (zS (zL 3 (aq hS (fun z7 l8 hS=>zO (v:=(.cD (cW.enc z7++(cW.cells (a1.drop ((gq:Int).toNat+1)))))) (aD:= []) (some 14) (.jz 118 4 (tm 12) (tm 13)) (fQ cW (kk:= .i64) (xs:=a1) (j:=gq) (by kernel_rfl) (by kernel_rfl) l8 rfl (by intro h;cases h)) (zL 1 (aq hS (fun z8 je hS=>zO (v:=(dB z8)) (aD:= []) (some 16) (.lU (tm 11) [(tm 15)]) (qC (f:=51) (cs:= []) (by kernel_rfl) (args:= [(.agg (SB z7))]) (l:= [(.agg (SB z7))]) (r:=(dB z8)) (by kernel_rfl) (by kernel_rfl) (atL (aU hd rfl) je) (by kernel_rfl) (by kernel_rfl) (by kernel_rfl)) (zK (sR 16 hS (fun hS=>?_) (fun hS=>?_)))))))))))))))
 ·exact zT (zS (zL 2 (zK (cM (cr (bP (bk (mX hS hQ))))))))
 ·exact lR hS hQ
def Pw(a1:List dD)(mZ:Int)(uh:Bool):St:=⟨(up (up (up (up (up u0 9 (dB uh)) 8 (dI mZ)) 7 (dI (a1.length:Int))) 1 (.fn 51 [])) 0 (dE cW a1)),h0⟩
def rz(a1:List dD)(mZ:Int)(uh:Bool):Option (Int⊕(Unit⊕Int)):=(bif uh then (BR a1 mZ) else (some (.inr (.inl ()))))
theorem AE(hd:2≤d){a1:List dD}{r:Int⊕(Unit⊕Int)}(hQ:FQ (bG (ug a1) (zi a1) r) Q){mZ:Int}{uh:Bool}(hS:rz a1 mZ uh=some r): ∀st,au [0,1,7,8,9] [] [] st=Pw a1 mZ uh→ZX d Q aiO [] st:=by
 intro st he
 refine ay he (aC (sR 9 hS (fun hS=>?_) (fun hS=>?_)))
 ·exact jR (Lm hd hQ hS)
 ·exact zF (ay (J:=C7 a1) (by kernel_rfl) (dh (cY (bk (jA hS hQ)))))
def C8(a1:List dD)(x:Int):Option (Int⊕(Unit⊕Int)):=(bif (decide (x<(a1.length:Int))) then (rz a1 x true) else (rz a1 x false))
theorem WD(hd:2≤d){a1:List dD}{r:Int⊕(Unit⊕Int)}(hQ:FQ (bG (ug a1) (zi a1) r) Q){x:Int}(hS:C8 a1 x=some r)(he:ug a1 x st):ZX d Q aiP [] st:=by
 refine ay he (zS (sB 9 hS (fun hS=>?_) (fun hS=>?_)))
 ·exact zK (AE hd hQ hS _ (by kernel_rfl))
 ·exact jL (AE hd hQ hS)
def f84(a1:List dD):Option (Int):=((b9 (C8 a1) 0).bind fun z9=>(Sum.elim (fun dG=>(some (-1))) (fun cS=>(some cS)) z9))
theorem atM{d:Nat}(hd:2≤d){a1:List dD}{r:Int}(hS:f84 a1=some r):bW av aX d 84 [(dE cW a1),(.fn 51 [])] []=some ((dI r),[]):=by
 refine cL azc hd (fun Q hQ=>?_) al9
 refine zS (zL 1 (zK (aC (zS (zL 3 (zK (bz (aq hS (fun z9 jI hS=>dN (ug a1) (zi a1) (fun x st r Q h0 hS hQ=>WD hd hQ hS h0) (x:=0) (z:=z9) (by show au _ _ _ _=_;kernel_rfl) jI ?_)))))))))
 rcases z9 with dG | cS
 ·replace hS:=(show _=_ from hS)
  simp only [ua] at hS
  intro e bl _ hX
  obtain ⟨rfl,rfl⟩:_∧_:=hX
  exact nK hS hQ
 ·simp only [ud] at hS
  intro e bl _ hX
  obtain ⟨rfl,hX⟩:_∧_:=hX
  exact cr (bP (bk (eA hS hQ (jv (by kernel_rfl) ((congrArg (fun s=>cP s 0 Wd.res) hX).trans amg)))))
/- slices.ContainsFunc[[]farwriter/api.Var,farwriter/api.Var] -/
def azd(r:Bool)(e:PX)(st:St):Prop:=aV c50 0 ((dB r),[]) e st
def f50(a1:List dD):Option (Bool):=((f84 a1).bind fun z2=>(bif (decide (0≤z2)) then (some true) else (some false)))
theorem atN{d:Nat}(hd:3≤d){a1:List dD}{r:Bool}(hS:f50 a1=some r):bW av aX d 50 [(dE cW a1),(.fn 51 [])] []=some ((dB r),[]):=by
 refine cL azd hd (fun Q hQ=>?_) alN
 refine zS (zL 1 (zK (zS (zL 2 (aq hS (fun z2 hz2 hS=>zC 7 (atM (aU hd rfl) hz2) (sB 8 hS (fun hS=>?_) (fun hS=>?_))))))))
 ·exact nL hS hQ
 ·exact nL hS hQ
/- farwriter/environ.escape -/
def aze(r:S8)(e:PX)(st:St):Prop:=aV c52 1 ((.r (.aJ 0 0 0 r.length)),[(.own 5 1 (cH.cells r))]) e st
def afe(a1 a2:S8)(x:S8×Int):St:=⟨(up (up (up (up (up u0 1000000 .un) 8 (dI x.2)) 7 (dI (a1.length:Int))) 1 (.d (.str a1))) 0 (.r (.aJ 0 1 0 x.1.length))),(up h0 0 ⟨1,some (.own 5 1 (cH.cells x.1))⟩)⟩
def qD(a1 a2:S8)(x:S8×Int)(st:St):Prop:=au [0,1,7,8,1000000] [(0,.id 0)] [] st=afe a1 a2 x
def C9(a1 a2 mM:S8):St:=⟨(up (up u0 1000000 .un) 0 (.r (.aJ 0 1 0 mM.length))),(up h0 0 ⟨1,some (.own 5 1 (cH.cells mM))⟩)⟩
def uj(a1 a2:S8)(z:(S8))(e:PX)(st:St):Prop:=e= .exit 0∧st=C9 a1 a2 z
def Px(a1 a2 gu:S8)(iJ fe:Int):St:=⟨(up (up (up (up (up (up u0 1000000 .un) 8 (dI fe)) 7 (dI (a1.length:Int))) 5 (dI iJ)) 1 (.d (.str a1))) 0 (.r (.aJ 0 1 0 gu.length))),(up h0 0 ⟨1,some (.own 5 1 (cH.cells gu))⟩)⟩
def rA(a1 a2 gu:S8)(iJ fe:Int):Option ((S8×Int)⊕((S8))):=((idx a1 iJ).bind fun fk=>((eN 1 gu ([fk]:S8)).bind fun dy=>(some (.inl (dy,(IntKind.i64.wrap (fe+1)))))))
theorem AG(hd:1≤d){a1 a2:S8}{r:(S8×Int)⊕((S8))}(hQ:FQ (bG (qD a1 a2) (uj a1 a2) r) Q){gu:S8}{iJ fe:Int}(hS:rA a1 a2 gu iJ fe=some r): ∀st,au [0,1,5,7,8,1000000] [(0,.id 0)] [] st=Px a1 a2 gu iJ fe→ZX d Q aiQ [.blk 1,.seq aiR] st:=by
 intro st he
 exact ay he (a_ (zL 3 (aq hS (fun fk kX hS=>zO (v:=(.d (.int .u8 (fk.toNat:Int)))) (aD:= []) (some 21) (.iw (tm 19) (tm 20)) (fq (kk:= .i64) (s:=a1) (j:=iJ) (by kernel_rfl) (by kernel_rfl) kX) (zL 1 (aq hS (fun dy jm hS=>zO (v:=(.r (.aJ 0 2 0 dy.length))) (aD:= [(0,⟨2,some (.own 5 1 (cH.cells dy))⟩)]) (some 23) (.app 5 1 1 (tm 18) (tm 22)) (eL cH (b:=0) (g:=1) (n:=gu.length) (xs:=gu) (ys:= [fk]) ((congrArg (fJ _) (by kernel_rfl:bU _ (.tmp 22)=(.r (.aJ 184 1 0 (([fk]:S8).length))))).trans (cX cH (e:=5) (k:=1) (xs:= [fk]) (by kernel_rfl) rfl rfl)) rfl (by kernel_rfl) rfl (by kernel_rfl) rfl jm) (lL hS hQ))))))))
def Py(a1 a2 uk:S8)(kQ:Int):St:=⟨(up (up (up (up (up u0 1000000 .un) 8 (dI kQ)) 7 (dI (a1.length:Int))) 1 (.d (.str a1))) 0 (.r (.aJ 0 1 0 uk.length))),(up h0 0 ⟨1,some (.own 5 1 (cH.cells uk))⟩)⟩
def BS(a1 a2 uk:S8)(kQ:Int):Option ((S8×Int)⊕((S8))):=((idx a1 kQ).bind fun fC=>(bif (decide ((fC.toNat:Int)≤3)) then ((eN 1 uk ([2]:S8)).bind fun fD=>(rA a1 a2 fD kQ kQ)) else (rA a1 a2 uk kQ kQ)))
theorem Lp(hd:1≤d){a1 a2:S8}{r:(S8×Int)⊕((S8))}(hQ:FQ (bG (qD a1 a2) (uj a1 a2) r) Q){uk:S8}{kQ:Int}(hS:BS a1 a2 uk kQ=some r): ∀st,au [0,1,7,8,1000000] [(0,.id 0)] [] st=Py a1 a2 uk kQ→ZX d Q aiS [] st:=by
 intro st he
 refine ay he (aC (bz (zS (zL 2 (zK (aC (zS (zL 2 (aq hS (fun fC ke hS=>zO (v:=(.d (.int .u8 (fC.toNat:Int)))) (aD:= []) (some 13) (.iw (tm 11) (tm 12)) (fq (kk:= .i64) (s:=a1) (j:=kQ) (by kernel_rfl) (by kernel_rfl) ke) (sB 14 hS (fun hS=>?_) (fun hS=>?_))))))))))))
 ·exact zK (zT (a_ (zL 2 (aq hS (fun fD lJ hS=>zO (v:=(.r (.aJ 0 2 0 fD.length))) (aD:= [(0,⟨2,some (.own 5 1 (cH.cells fD))⟩)]) (some 17) (.app 5 1 1 (tm 15) (tm 16)) (eL cH (b:=0) (g:=1) (n:=uk.length) (xs:=uk) (ys:= [2]) ((congrArg (fJ _) (by kernel_rfl:bU _ (.tmp 16)=(.r (.aJ 136 1 0 (([2]:S8).length))))).trans (cX cH (e:=5) (k:=1) (xs:= [2]) (by kernel_rfl) rfl rfl)) rfl (by kernel_rfl) rfl (by kernel_rfl) rfl lJ) (zL 1 (zK (AG hd hQ hS _ (by kernel_rfl)))))))))
 ·exact jL (AG hd hQ hS)
def Pz(a1 a2 rB:S8)(iQ:Int)(tI:Bool):St:=⟨(up (up (up (up (up (up u0 1000000 .un) 9 (dB tI)) 8 (dI iQ)) 7 (dI (a1.length:Int))) 1 (.d (.str a1))) 0 (.r (.aJ 0 1 0 rB.length))),(up h0 0 ⟨1,some (.own 5 1 (cH.cells rB))⟩)⟩
def rC(a1 a2 rB:S8)(iQ:Int)(tI:Bool):Option ((S8×Int)⊕((S8))):=(bif tI then (BS a1 a2 rB iQ) else (some (.inr rB)))
theorem AH(hd:1≤d){a1 a2:S8}{r:(S8×Int)⊕((S8))}(hQ:FQ (bG (qD a1 a2) (uj a1 a2) r) Q){rB:S8}{iQ:Int}{tI:Bool}(hS:rC a1 a2 rB iQ tI=some r): ∀st,au [0,1,7,8,9,1000000] [(0,.id 0)] [] st=Pz a1 a2 rB iQ tI→ZX d Q aiT [] st:=by
 intro st he
 refine ay he (aC (sR 9 hS (fun hS=>?_) (fun hS=>?_)))
 ·exact jR (Lp hd hQ hS)
 ·exact zF (ay (J:=C9 a1 a2 rB) (by kernel_rfl) (dh (cY (bk (jA hS hQ)))))
def Hh(a1 a2:S8)(x:S8×Int):Option ((S8×Int)⊕((S8))):=(bif (decide (x.2<(a1.length:Int))) then (rC a1 a2 x.1 x.2 true) else (rC a1 a2 x.1 x.2 false))
theorem WE(hd:1≤d){a1 a2:S8}{r:(S8×Int)⊕((S8))}(hQ:FQ (bG (qD a1 a2) (uj a1 a2) r) Q){x:S8×Int}(hS:Hh a1 a2 x=some r)(he:qD a1 a2 x st):ZX d Q aiU [] st:=by
 refine ay he (zS (sB 9 hS (fun hS=>?_) (fun hS=>?_)))
 ·exact zK (AH hd hQ hS _ (by kernel_rfl))
 ·exact jL (AH hd hQ hS)
def f52(a1 a2:S8):Option (S8):=((b9 (Hh a1 a2) (a2,0)).bind fun gy=>(some gy))
theorem ab3{d:Nat}(hd:1≤d){a1 a2 r:S8}(hS:f52 a1 a2=some r):bW av aX d 52 [(.r (.aJ 0 0 0 a2.length)),(.d (.str a1))] [(.own 5 1 (cH.cells a2))]=some ((.r (.aJ 0 0 0 r.length)),[(.own 5 1 (cH.cells r))]):=by
 refine cL aze hd (fun Q hQ=>?_) alP
 refine zS (zL 1 (zK (aC (zS (zL 3 (zK (bz (aq hS (fun gy nM hS=>dN (qD a1 a2) (uj a1 a2) (fun x st r Q h0 hS hQ=>WE hd hQ hS h0) (x:=(a2,0)) (z:=gy) (by show au _ _ _ _=_;kernel_rfl) nM ?_)))))))))
 intro e bl _ hX
 obtain ⟨rfl,rfl⟩:_∧_:=hX
 exact nK hS hQ
/- farwriter/environ.Write -/
def SR(sP:S8)(Jm:Int):St:=⟨(up (up u0 3 (dI Jm)) 2 (.d (.str sP))),h0⟩
theorem amh{sP:S8}{Jm:Int}:cP (SR sP Jm) 0 c18.res=some ((.bE [(.d (.str sP)),(dI Jm)]),[]):=by
 kernel_rfl
def ami(r:S8×Int)(e:PX)(st:St):Prop:=aV c18 0 ((.bE [(.d (.str r.1)),(dI r.2)]),[]) e st
def aff(a1:List dD)(x:S8×Int):St:=⟨(up (up (up (up u0 17 (dI x.2)) 16 (dI (a1.length:Int))) 15 (dE cW a1)) 4 (.r (.aJ 40 0 0 x.1.length))),(up h0 40 ⟨0,some (.own 5 1 (cH.cells x.1))⟩)⟩
def od(a1:List dD)(x:S8×Int)(st:St):Prop:=au [4,15,16,17] [(40,.id 40)] [] st=aff a1 x
def C_(a1:List dD)(mY:S8):St:=⟨(up u0 4 (.r (.aJ 40 0 0 mY.length))),(up h0 40 ⟨0,some (.own 5 1 (cH.cells mY))⟩)⟩
def qE(a1:List dD)(z:(S8)⊕(S8×Int))(e:PX)(st:St):Prop:=(match z with | .inl z=>e= .exit 0∧st=C_ a1 z | .inr z=>e= .ret∧dY c18.fin st=SR z.1 z.2)
def PA(a1:List dD)(PB:S8)(SS:dD)(PC:UInt8)(xB:Int):St:=⟨(up (up (up (up (up (up u0 17 (dI xB)) 16 (dI (a1.length:Int))) 15 (dE cW a1)) 7 (.d (.int .u8 (PC.toNat:Int)))) 6 (pt 56)) 4 (.r (.aJ 40 0 0 PB.length))),(up (up h0 56 ⟨0,some (.box (SB SS))⟩) 40 ⟨0,some (.own 5 1 (cH.cells PB))⟩)⟩
def rD(a1:List dD)(PB:S8)(SS:dD)(PC:UInt8)(xB:Int):Option ((S8×Int)⊕((S8)⊕(S8×Int))):=((eN 1 PB ([PC]:S8)).bind fun gy=>((f52 SS.Name gy).bind fun z20=>(bif SS.Set then ((eN 1 z20 ([1]:S8)).bind fun z21=>((f52 SS.Value z21).bind fun z22=>(some (.inl (z22,(IntKind.i64.wrap (xB+1))))))) else (some (.inl (z20,(IntKind.i64.wrap (xB+1))))))))
theorem AJ(hd:4≤d){a1:List dD}{r:(S8×Int)⊕((S8)⊕(S8×Int))}(hQ:FQ (bG (od a1) (qE a1) r) Q){PB:S8}{SS:dD}{PC:UInt8}{xB:Int}(hS:rD a1 PB SS PC xB=some r): ∀st,au [4,6,7,15,16,17] [(40,.id 40),(56,.id 56)] [] st=PA a1 PB SS PC xB→ZX d Q aiV [.blk 1,.seq We] st:=by
 intro st he
 refine ay he (aC (cC (cy 3 (aq hS (fun gy nM hS=>dr (v:=(.r (.aJ 40 1 0 gy.length))) (aD:= [(40,⟨1,some (.own 5 1 (cH.cells gy))⟩)]) (some 34) none (.app 5 1 1 (tm 31) (tm 33)) (eL cH (b:=40) (g:=0) (n:=PB.length) (xs:=PB) (ys:= [PC]) ((congrArg (fJ _) (by kernel_rfl:bU _ (.tmp 33)=(.r (.aJ 272 1 0 (([PC]:S8).length))))).trans (cX cH (e:=5) (k:=1) (xs:= [PC]) (by kernel_rfl) rfl rfl)) rfl (by kernel_rfl) rfl (by kernel_rfl) rfl nM) (cy 2 (aq hS (fun z20 nN hS=>dr (some 37) none (.fO 52 [(tm 34),(tm 36)]) (Pd [40] (ab3 (aU hd rfl) nN)) (cy 1 (fL (cj (zS (zL 2 (zK (sR 39 hS (fun hS=>?_) (fun hS=>?_))))))))))))))))
 ·exact zT (cC (cy 2 (aq hS (fun z21 nc hS=>dr (v:=(.r (.aJ 40 3 0 z21.length))) (aD:= [(40,⟨3,some (.own 5 1 (cH.cells z21))⟩)]) (some 42) none (.app 5 1 1 (tm 40) (tm 41)) (eL cH (b:=40) (g:=2) (n:=z20.length) (xs:=z20) (ys:= [1]) ((congrArg (fJ _) (by kernel_rfl:bU _ (.tmp 41)=(.r (.aJ 336 1 0 (([1]:S8).length))))).trans (cX cH (e:=5) (k:=1) (xs:= [1]) (by kernel_rfl) rfl rfl)) rfl (by kernel_rfl) rfl (by kernel_rfl) rfl nc) (cy 2 (aq hS (fun z22 AK hS=>dr (some 45) none (.fO 52 [(tm 42),(tm 44)]) (Pd [40] (ab3 (aU hd rfl) AK)) (cy 1 (fL (lK hS hQ))))))))))
 ·exact lR hS hQ
def PE(a1:List dD)(SU:S8)(SV:dD)(Da:Int):St:=⟨(up (up (up (up (up u0 17 (dI Da)) 16 (dI (a1.length:Int))) 15 (dE cW a1)) 6 (pt 56)) 4 (.r (.aJ 40 0 0 SU.length))),(up (up h0 56 ⟨0,some (.box (SB SV))⟩) 40 ⟨0,some (.own 5 1 (cH.cells SU))⟩)⟩
def rE(a1:List dD)(SU:S8)(SV:dD)(Da:Int):Option ((S8×Int)⊕((S8)⊕(S8×Int))):=(bif SV.Zx then (rD a1 SU SV (3:UInt8) Da) else (rD a1 SU SV (0:UInt8) Da))
theorem AL(hd:4≤d){a1:List dD}{r:(S8×Int)⊕((S8)⊕(S8×Int))}(hQ:FQ (bG (od a1) (qE a1) r) Q){SU:S8}{SV:dD}{Da:Int}(hS:rE a1 SU SV Da=some r): ∀st,au [4,6,15,16,17] [(40,.id 40),(56,.id 56)] [] st=PE a1 SU SV Da→ZX d Q aiW [.blk 1,.seq We] st:=by
 intro st he
 refine ay he (zS (zL 1 (zK (aC (zS (zL 2 (zK (sR 30 hS (fun hS=>?_) (fun hS=>?_)))))))))
 ·exact zT (a_ (zL 1 (zK (AJ hd hQ hS _ (by kernel_rfl)))))
 ·exact jR (AJ hd hQ hS)
def PF(a1:List dD)(iR:S8)(ir:Int):St:=⟨(up (up (up (up u0 17 (dI ir)) 16 (dI (a1.length:Int))) 15 (dE cW a1)) 4 (.r (.aJ 40 0 0 iR.length))),(up h0 40 ⟨0,some (.own 5 1 (cH.cells iR))⟩)⟩
def BU(a1:List dD)(iR:S8)(ir:Int):Option ((S8×Int)⊕((S8)⊕(S8×Int))):=((idx a1 ir).bind fun fD=>(bif (!fD.Set) then (bif (!decide (fD.Value=([]:S8))) then (some (.inr (.inr ([],4)))) else (rE a1 iR fD ir)) else (rE a1 iR fD ir)))
theorem Lq(hd:4≤d){a1:List dD}{r:(S8×Int)⊕((S8)⊕(S8×Int))}(hQ:FQ (bG (od a1) (qE a1) r) Q){iR:S8}{ir:Int}(hS:BU a1 iR ir=some r): ∀st,au [4,15,16,17] [(40,.id 40)] [] st=PF a1 iR ir→ZX d Q aiX [] st:=by
 intro st he
 refine ay he (aC (bz (zS (aq hS (fun fD lJ hS=>zO (v:=(.cD (cW.enc fD++(cW.cells (a1.drop ((ir:Int).toNat+1)))))) (aD:= []) (some 19) (.jz 118 4 (tm 15) (tm 17)) (fQ cW (kk:= .i64) (xs:=a1) (j:=ir) (by kernel_rfl) (by kernel_rfl) lJ rfl (by intro h;cases h)) (zL 3 (zK (aC (zS (zL 4 (sL 24 hS (fun hS=>?_) (fun hS=>?_))))))))))))
 ·refine zL 2 (sB 27 hS (fun hS=>?_) (fun hS=>?_))
  ·exact zL 1 (zK (zT (zS (zL 2 (zK (cM (bP (cr (bP (bk (mX hS hQ)))))))))))
  ·exact jL (AL hd hQ hS)
 ·exact jL (AL hd hQ hS)
def PG(a1:List dD)(eX:S8)(fV:Int)(jy:Bool):St:=⟨(up (up (up (up (up u0 18 (dB jy)) 17 (dI fV)) 16 (dI (a1.length:Int))) 15 (dE cW a1)) 4 (.r (.aJ 40 0 0 eX.length))),(up h0 40 ⟨0,some (.own 5 1 (cH.cells eX))⟩)⟩
def rF(a1:List dD)(eX:S8)(fV:Int)(jy:Bool):Option ((S8×Int)⊕((S8)⊕(S8×Int))):=(bif jy then (BU a1 eX fV) else (some (.inr (.inl eX))))
theorem AO(hd:4≤d){a1:List dD}{r:(S8×Int)⊕((S8)⊕(S8×Int))}(hQ:FQ (bG (od a1) (qE a1) r) Q){eX:S8}{fV:Int}{jy:Bool}(hS:rF a1 eX fV jy=some r): ∀st,au [4,15,16,17,18] [(40,.id 40)] [] st=PG a1 eX fV jy→ZX d Q aiY [] st:=by
 intro st he
 refine ay he (aC (sR 18 hS (fun hS=>?_) (fun hS=>?_)))
 ·exact jR (Lq hd hQ hS)
 ·exact zF (ay (J:=C_ a1 eX) (by kernel_rfl) (dh (cY (bk (jA hS hQ)))))
def Hl(a1:List dD)(x:S8×Int):Option ((S8×Int)⊕((S8)⊕(S8×Int))):=(bif (decide (x.2<(a1.length:Int))) then (rF a1 x.1 x.2 true) else (rF a1 x.1 x.2 false))
theorem WG(hd:4≤d){a1:List dD}{r:(S8×Int)⊕((S8)⊕(S8×Int))}(hQ:FQ (bG (od a1) (qE a1) r) Q){x:S8×Int}(hS:Hl a1 x=some r)(he:od a1 x st):ZX d Q aiZ [] st:=by
 refine ay he (zS (sB 18 hS (fun hS=>?_) (fun hS=>?_)))
 ·exact zK (AO hd hQ hS _ (by kernel_rfl))
 ·exact jL (AO hd hQ hS)
def afg(a1:List dD):St:=⟨(up u0 0 (dE cW a1)),h0⟩
def PI(a1:List dD):Option (S8×Int):=((b9 (Hl a1) ([],0)).bind fun z23=>(Sum.elim (fun z24=>(some (z24,0))) (fun z25=>(some (z25.1,z25.2))) z23))
theorem WH(hd:4≤d){a1:List dD}{r:S8×Int}(hQ:FQ (ami r) Q)(hS:PI a1=some r): ∀st,au [0] [] [] st=afg a1→ZX d Q ai0 [] st:=by
 intro st he
 refine ay he (zS (zL 1 (zK (aC (zS (zL 3 (zK (bz (aq hS (fun z23 xC hS=>dN (od a1) (qE a1) (fun x st r Q h0 hS hQ=>WG hd hQ hS h0) (x:=([],0)) (z:=z23) (by show au _ _ _ _=_;kernel_rfl) xC ?_))))))))))
 rcases z23 with z24 | z25
 ·replace hS:=(show _=_ from hS)
  simp only [ua] at hS
  intro e bl _ hX
  obtain ⟨rfl,rfl⟩:_∧_:=hX
  exact j9 (cj (zS (zL 1 (zO (v:=(.d (.str z24))) (aD:= []) (some 48) (.sS (tm 47)) (CZ (s:=z24) ((congrArg (fJ _) (by kernel_rfl:bU _ (.tmp 47)=(.r (.aJ 40 0 0 z24.length)))).trans (cX cH (e:=5) (k:=1) (xs:=z24) (by kernel_rfl) rfl rfl)) rfl) (nL hS hQ)))))
 ·simp only [ud] at hS
  intro e bl _ hX
  obtain ⟨rfl,hX⟩:_∧_:=hX
  exact cr (bP (bk (eA hS hQ (jv (by kernel_rfl) ((congrArg (fun s=>cP s 0 c18.res) hX).trans amh)))))
def f18(a1:List dD):Option (S8×Int):=(bif (decide (20<(a1.length:Int))) then (some ([],2)) else ((f50 a1).bind fun z26=>(bif z26 then (some ([],2)) else (PI a1))))
theorem atO{d:Nat}(hd:4≤d){a1:List dD}{r:S8×Int}(hS:f18 a1=some r):bW av aX d 18 [(dE cW a1)] []=some ((.bE [(.d (.str r.1)),(dI r.2)]),[]):=by
 refine cL ami hd (fun Q hQ=>?_) alu
 refine zS (zL 2 (zK (aC (zS (zL 2 (sB 10 hS (fun hS=>?_) (fun hS=>?_)))))))
 ·exact nL hS hQ
 ·refine zL 2 (aq hS (fun z26 rH hS=>zG (some 13) 11 false (.call 50 [(tm 12),(.func 51)]) (bX (atN (aU hd rfl) rH)) (zL 1 (zK (sR 14 hS (fun hS=>?_) (fun hS=>?_))))))
  ·exact nR hS hQ
  ·exact jR (WH hd hQ hS)
/- farwriter/utf.need -/
def WI(r:Int×UInt8×UInt8)(e:PX)(st:St):Prop:=aV c85 0 ((.bE [(dI r.1),(.d (.int .u8 (r.2.1.toNat:Int))),(.d (.int .u8 (r.2.2.toNat:Int)))]),[]) e st
def afh(a1:UInt8):St:=⟨(up u0 0 (.d (.int .u8 (a1.toNat:Int)))),h0⟩
def Db(a1:UInt8):Option (Int×UInt8×UInt8):=(bif (decide ((a1.toNat:Int)=240)) then (some (3,(144:UInt8),(191:UInt8))) else (bif (decide ((a1.toNat:Int)=244)) then (some (3,(128:UInt8),(143:UInt8))) else (bif (decide (241≤(a1.toNat:Int))) then (bif (decide ((a1.toNat:Int)≤243)) then (some (3,(128:UInt8),(191:UInt8))) else (some (0,(0:UInt8),(0:UInt8)))) else (some (0,(0:UInt8),(0:UInt8))))))
theorem Jn(hd:1≤d){a1:UInt8}{r:Int×UInt8×UInt8}(hQ:FQ (WI r) Q)(hS:Db a1=some r): ∀st,au [0] [] [] st=afh a1→ZX d Q ai1 [.blk 0,.seq Wf] st:=by
 intro st he
 refine ay he (zS (zL 1 (sB 27 hS (fun hS=>?_) (fun hS=>?_))))
 ·exact nL hS hQ
 ·refine zL 1 (zK (zF (zS (zL 1 (sB 30 hS (fun hS=>?_) (fun hS=>?_))))))
  ·exact nL hS hQ
  ·refine zL 1 (zK (zF (zS (zL 1 (sB 33 hS (fun hS=>?_) (fun hS=>?_))))))
   ·refine zL 2 (sB 36 hS (fun hS=>?_) (fun hS=>?_))
    ·exact nL hS hQ
    ·exact nL hS hQ
   ·exact nL hS hQ
def afi(a1:UInt8):St:=⟨(up u0 0 (.d (.int .u8 (a1.toNat:Int)))),h0⟩
def Dc(a1:UInt8):Option (Int×UInt8×UInt8):=(bif (decide ((a1.toNat:Int)=224)) then (some (2,(160:UInt8),(191:UInt8))) else (bif (decide ((a1.toNat:Int)=237)) then (some (2,(128:UInt8),(159:UInt8))) else (bif (decide (225≤(a1.toNat:Int))) then (bif (decide ((a1.toNat:Int)≤239)) then (some (2,(128:UInt8),(191:UInt8))) else (Db a1)) else (Db a1))))
theorem Jo(hd:1≤d){a1:UInt8}{r:Int×UInt8×UInt8}(hQ:FQ (WI r) Q)(hS:Dc a1=some r): ∀st,au [0] [] [] st=afi a1→ZX d Q ai2 [.blk 0,.seq Wf] st:=by
 intro st he
 refine ay he (zS (zL 1 (sB 14 hS (fun hS=>?_) (fun hS=>?_))))
 ·exact nL hS hQ
 ·refine zL 1 (zK (zF (zS (zL 1 (sB 17 hS (fun hS=>?_) (fun hS=>?_))))))
  ·exact nL hS hQ
  ·refine zL 1 (zK (zF (zS (zL 1 (sB 20 hS (fun hS=>?_) (fun hS=>?_))))))
   ·refine zL 2 (sB 23 hS (fun hS=>?_) (fun hS=>?_))
    ·exact nL hS hQ
    ·exact zL 2 (zK (zF (Jn hd hQ hS _ (by kernel_rfl))))
   ·exact jL (Jn hd hQ hS)
def f85(a1:UInt8):Option (Int×UInt8×UInt8):=(bif (decide (194≤(a1.toNat:Int))) then (bif (decide ((a1.toNat:Int)≤223)) then (some (1,(128:UInt8),(191:UInt8))) else (Dc a1)) else (Dc a1))
theorem atQ{d:Nat}(hd:1≤d){a1:UInt8}{r:Int×UInt8×UInt8}(hS:f85 a1=some r):bW av aX d 85 [(.d (.int .u8 (a1.toNat:Int)))] []=some ((.bE [(dI r.1),(.d (.int .u8 (r.2.1.toNat:Int))),(.d (.int .u8 (r.2.2.toNat:Int)))]),[]):=by
 refine cL WI hd (fun Q hQ=>?_) al_
 refine zS (zL 3 (zK (aC (bz (zS (zL 1 (sB 7 hS (fun hS=>?_) (fun hS=>?_))))))))
 ·refine zL 2 (sB 10 hS (fun hS=>?_) (fun hS=>?_))
  ·exact nL hS hQ
  ·exact zL 2 (zK (zF (Jo hd hQ hS _ (by kernel_rfl))))
 ·exact jL (Jo hd hQ hS)
end
end Go.Proofs.YtimbfadnabfabaaGreatDoor.Pm
