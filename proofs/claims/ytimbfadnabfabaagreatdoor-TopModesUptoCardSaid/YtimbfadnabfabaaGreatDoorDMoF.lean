/- Typed functions, and that the codes are these. Printed by dec.py. -/
import Derived.Test.YtimbfadnabfabaaGreatDoorDMoE
namespace Go.Proofs.YtimbfadnabfabaaGreatDoor.Pm
noncomputable section
set_option maxRecDepth 1000000
set_option maxHeartbeats 20000000
set_option linter.unusedVariables false
set_option linter.unusedSimpArgs false
variable {d : Nat} {Q : PQ} {st : St}
/- farwriter/screen.Check -/
def pO(r:Int)(e:PX)(st:St):Prop:=aV c22 0 ((dI r),[]) e st
def afF(a1:aA)(vD:Bool):St:=⟨(up (up u0 5 (dB vD)) 1 (pt 16)),(up h0 16 ⟨0,some (.box (bM a1))⟩)⟩
def Dt(a1:aA)(vD:Bool):Option (Int):=(bif vD then (bif (decide ((a1.gZ.length:Int)≤256)) then ((f61 a1.bn).bind fun pP=>(bif (!pP) then (some 4) else (some 0))) else (some 4)) else (some 4))
theorem B0(hd:6≤d){a1:aA}{r:Int}(hQ:FQ (pO r) Q){vD:Bool}(hS:Dt a1 vD=some r): ∀st,au [1,5] [(16,.id 16)] [] st=afF a1 vD→ZX d Q ajC [] st:=by
 intro st he
 refine ay he (zS (zL 2 (sL 144 hS (fun hS=>?_) (fun hS=>?_))))
 ·refine zL 3 (sB 148 hS (fun hS=>?_) (fun hS=>?_))
  ·refine zL 4 (aq hS (fun pP NL hS=>zG (some 153) 150 true (c1 61 152) (bX (atV (aU hd rfl) NL)) (zL 2 (zK (aC (zS (zL 2 (zK (sR 156 hS (fun hS=>?_) (fun hS=>?_))))))))))
   ·exact nR hS hQ
   ·exact nR hS hQ
  ·exact nL hS hQ
 ·exact nL hS hQ
def afG(a1:aA)(ko:Bool):St:=⟨(up (up u0 5 (dB ko)) 1 (pt 16)),(up h0 16 ⟨0,some (.box (bM a1))⟩)⟩
def Du(a1:aA)(ko:Bool):Option (Int):=(bif ko then ((f58 a1.aS.Row 0 59).bind fun Th=>(bif Th then ((f58 a1.aS.cQ 0 159).bind fun z44=>(Dt a1 z44)) else (Dt a1 false))) else (Dt a1 false))
theorem B1(hd:6≤d){a1:aA}{r:Int}(hQ:FQ (pO r) Q){ko:Bool}(hS:Du a1 ko=some r): ∀st,au [1,5] [(16,.id 16)] [] st=afG a1 ko→ZX d Q ajD [] st:=by
 intro st he
 refine ay he (zS (zL 2 (sL 131 hS (fun hS=>?_) (fun hS=>?_))))
 ·refine zL 3 (aq hS (fun Th NM hS=>zG (some 135) 131 true (.call 58 [(tm 134),(ki 0),(ki 59)]) (bX (qm (aU hd rfl) NM)) (zL 2 (sL 137 hS (fun hS=>?_) (fun hS=>?_)))))
  ·exact zL 3 (aq hS (fun z44 Ju hS=>zG (some 141) 137 true (.call 58 [(tm 140),(ki 0),(ki 159)]) (bX (qm (aU hd rfl) Ju)) (zL 2 (zK (B0 hd hQ hS _ (by kernel_rfl))))))
  ·exact zL 6 (zK (B0 hd hQ hS _ (by kernel_rfl)))
 ·exact jL (B0 hd hQ hS)
def afH(a1:aA)(iR:Bool):St:=⟨(up (up u0 5 (dB iR)) 1 (pt 16)),(up h0 16 ⟨0,some (.box (bM a1))⟩)⟩
def vE(a1:aA)(iR:Bool):Option (Int):=(bif iR then ((f58 a1.cN 0 1).bind fun P9=>(bif P9 then ((f58 a1.aS.cN 0 1).bind fun z46=>(Du a1 z46)) else (Du a1 false))) else (Du a1 false))
theorem rK(hd:6≤d){a1:aA}{r:Int}(hQ:FQ (pO r) Q){iR:Bool}(hS:vE a1 iR=some r): ∀st,au [1,5] [(16,.id 16)] [] st=afH a1 iR→ZX d Q E4 [] st:=by
 intro st he
 refine ay he (zS (zL 2 (sL 119 hS (fun hS=>?_) (fun hS=>?_))))
 ·refine zL 2 (aq hS (fun P9 Ti hS=>zG (some 122) 119 true (.call 58 [(tm 121),(ki 0),(ki 1)]) (bX (qm (aU hd rfl) Ti)) (zL 2 (sL 124 hS (fun hS=>?_) (fun hS=>?_)))))
  ·exact zL 3 (aq hS (fun z46 NN hS=>zG (some 128) 124 true (.call 58 [(tm 127),(ki 0),(ki 1)]) (bX (qm (aU hd rfl) NN)) (zL 2 (zK (B1 hd hQ hS _ (by kernel_rfl))))))
  ·exact zL 6 (zK (B1 hd hQ hS _ (by kernel_rfl)))
 ·exact jL (B1 hd hQ hS)
def afI(a1:aA)(Da:Bool):St:=⟨(up (up (up u0 98 (dI 1)) 5 (dB Da)) 1 (pt 16)),(up h0 16 ⟨0,some (.box (bM a1))⟩)⟩
def P_(a1:aA)(Da:Bool):Option (Int):=(bif Da then ((f60 a1.bF.2).bind fun z51=>(bif z51 then ((f60 a1.aS.bF.2).bind fun Lv=>(vE a1 Lv)) else (vE a1 false))) else (vE a1 false))
theorem W9(hd:6≤d){a1:aA}{r:Int}(hQ:FQ (pO r) Q){Da:Bool}(hS:P_ a1 Da=some r): ∀st,au [1,5,98] [(16,.id 16)] [] st=afI a1 Da→ZX d Q Jc [.seq Jd,.blk 0,.seq E4] st:=by
 intro st he
 refine ay he (aC (bz (zS (zL 2 (zK (a_ (zL 2 (sL 102 hS (fun hS=>?_) (fun hS=>?_)))))))))
 ·refine zL 4 (aq hS (fun z51 S4 hS=>zG (some 107) 102 true (c1 60 106) (bX (Dr (aU hd rfl) S4)) (zL 2 (sL 109 hS (fun hS=>?_) (fun hS=>?_)))))
  ·exact zL 5 (aq hS (fun Lv S5 hS=>zG (some 115) 109 true (c1 60 114) (bX (Dr (aU hd rfl) S5)) (jL (rK hd hQ hS))))
  ·exact jL (rK hd hQ hS)
 ·exact jL (rK hd hQ hS)
def afJ(a1:aA):St:=⟨(up (up (up u0 98 (dI 1)) 5 (dB false)) 1 (pt 16)),(up h0 16 ⟨0,some (.box (bM a1))⟩)⟩
def acg(a1:aA):Option (Int):=(vE a1 false)
theorem W_(hd:6≤d){a1:aA}{r:Int}(hQ:FQ (pO r) Q)(hS:acg a1=some r): ∀st,au [1,5,98] [(16,.id 16)] [] st=afJ a1→ZX d Q Jc [.seq Jd,.blk 0,.seq E4] st:=by
 intro st he
 exact ay he (jR (rK hd hQ hS))
def Xa(a1:aA):St:=⟨(up (up (up u0 98 (dI 1)) 5 (dB false)) 1 (pt 16)),(up h0 16 ⟨0,some (.box (bM a1))⟩)⟩
def Tj(a1:aA):Option (Int):=(vE a1 false)
theorem Tk(hd:6≤d){a1:aA}{r:Int}(hQ:FQ (pO r) Q)(hS:Tj a1=some r): ∀st,au [1,5,98] [(16,.id 16)] [] st=Xa a1→ZX d Q Jc [.seq Jd,.blk 0,.seq E4] st:=by
 intro st he
 exact ay he (jR (rK hd hQ hS))
def afK(a1:aA)(uA:Bool):St:=⟨(up (up (up u0 98 (dI 0)) 5 (dB uA)) 1 (pt 16)),(up h0 16 ⟨0,some (.box (bM a1))⟩)⟩
def Qa(a1:aA)(uA:Bool):Option (Int):=(bif uA then ((f60 a1.bF.1).bind fun Dv=>(bif Dv then ((f60 a1.aS.bF.1).bind fun xD=>(P_ a1 xD)) else (acg a1))) else (Tj a1))
theorem Xb(hd:6≤d){a1:aA}{r:Int}(hQ:FQ (pO r) Q){uA:Bool}(hS:Qa a1 uA=some r): ∀st,au [1,5,98] [(16,.id 16)] [] st=afK a1 uA→ZX d Q Jc [.seq Jd,.blk 0,.seq E4] st:=by
 intro st he
 refine ay he (aC (bz (zS (zL 2 (zK (a_ (zL 2 (sL 102 hS (fun hS=>?_) (fun hS=>?_)))))))))
 ·refine zL 4 (aq hS (fun Dv JC hS=>zG (some 107) 102 true (c1 60 106) (bX (Dr (aU hd rfl) JC)) (zL 2 (sL 109 hS (fun hS=>?_) (fun hS=>?_)))))
  ·exact zL 5 (aq hS (fun xD FW hS=>zG (some 115) 109 true (c1 60 114) (bX (Dr (aU hd rfl) FW)) (jL (W9 hd hQ hS))))
  ·exact jL (W_ hd hQ hS)
 ·exact jL (Tk hd hQ hS)
def afL(a1:aA)(eF:Bool):St:=⟨(up (up u0 5 (dB eF)) 1 (pt 16)),(up h0 16 ⟨0,some (.box (bM a1))⟩)⟩
def zw(a1:aA)(eF:Bool):Option (Int):=(Qa a1 eF)
theorem vG(hd:6≤d){a1:aA}{r:Int}(hQ:FQ (pO r) Q){eF:Bool}(hS:zw a1 eF=some r): ∀st,au [1,5] [(16,.id 16)] [] st=afL a1 eF→ZX d Q ajE [] st:=by
 intro st he
 exact ay he (jR (Xb hd hQ hS))
def afM(a1:aA)(fe:Bool):St:=⟨(up (up u0 5 (dB fe)) 1 (pt 16)),(up h0 16 ⟨0,some (.box (bM a1))⟩)⟩
def zx(a1:aA)(fe:Bool):Option (Int):=(bif fe then ((f59 a1.cz).bind fun z53=>(bif (decide (z53=0)) then ((f59 a1.aS.cz).bind fun E7=>(bif (decide (E7=0)) then ((f58 a1.dO 0 2047).bind fun E8=>(zw a1 E8)) else (zw a1 false))) else (zw a1 false))) else (zw a1 false))
theorem vH(hd:6≤d){a1:aA}{r:Int}(hQ:FQ (pO r) Q){fe:Bool}(hS:zx a1 fe=some r): ∀st,au [1,5] [(16,.id 16)] [] st=afM a1 fe→ZX d Q ajF [] st:=by
 intro st he
 refine ay he (zS (zL 2 (sL 80 hS (fun hS=>?_) (fun hS=>?_))))
 ·refine zL 2 (aq hS (fun z53 S6 hS=>zG (some 83) 80 true (c1 59 82) (bX (Hq (aU hd rfl) S6)) (sB 84 hS (fun hS=>?_) (fun hS=>?_))))
  ·refine zL 5 (aq hS (fun E7 Jw hS=>zG (some 90) 86 true (c1 59 89) (bX (Hq (aU hd rfl) Jw)) (sB 91 hS (fun hS=>?_) (fun hS=>?_))))
   ·exact zL 4 (aq hS (fun E8 ab6 hS=>zG (some 96) 93 true (.call 58 [(tm 95),(ki 0),(ki 2047)]) (bX (qm (aU hd rfl) ab6)) (zL 2 (zK (vG hd hQ hS _ (by kernel_rfl))))))
   ·exact zL 7 (zK (vG hd hQ hS _ (by kernel_rfl)))
  ·exact zL 14 (zK (vG hd hQ hS _ (by kernel_rfl)))
 ·exact jL (vG hd hQ hS)
def afN(a1:aA)(pQ:Bool):St:=⟨(up (up (up u0 5 (dB pQ)) 3 (pt 32)) 1 (pt 16)),(up (up h0 32 ⟨0,some (.box ((dI a1.aG.bR)::((dI a1.aG.bV)::((iA a1):: []))))⟩) 16 ⟨0,some (.box (bM a1))⟩)⟩
def lS(a1:aA)(pQ:Bool):Option (Int):=(bif pQ then ((f58 a1.jx 0 (IntKind.i64.wrap (a1.cZ-1))).bind fun z56=>(bif z56 then (bif (decide (a1.cZ≤a1.aG.bV)) then (zx a1 true) else (zx a1 false)) else (zx a1 false))) else (zx a1 false))
theorem ow(hd:6≤d){a1:aA}{r:Int}(hQ:FQ (pO r) Q){pQ:Bool}(hS:lS a1 pQ=some r): ∀st,au [1,3,5] [(16,.id 16),(32,.id 32)] [] st=afN a1 pQ→ZX d Q ajG [] st:=by
 intro st he
 refine ay he (zS (zL 2 (sL 64 hS (fun hS=>?_) (fun hS=>?_))))
 ·refine zL 5 (aq hS (fun z56 aB6 hS=>zG (some 70) 64 true (.call 58 [(tm 66),(ki 0),(tm 69)]) (bX (qm (aU hd rfl) aB6)) (zL 2 (sL 72 hS (fun hS=>?_) (fun hS=>?_)))))
  ·refine zL 4 (sB 77 hS (fun hS=>?_) (fun hS=>?_))
   ·exact zL 2 (zK (vH hd hQ hS _ (by kernel_rfl)))
   ·exact zL 2 (zK (vH hd hQ hS _ (by kernel_rfl)))
  ·exact zL 7 (zK (vH hd hQ hS _ (by kernel_rfl)))
 ·exact jL (vH hd hQ hS)
def afO(a1:aA)(dZ:Bool):St:=⟨(up (up (up u0 5 (dB dZ)) 3 (pt 32)) 1 (pt 16)),(up (up h0 32 ⟨0,some (.box ((dI a1.aG.bR)::((dI a1.aG.bV)::((iA a1):: []))))⟩) 16 ⟨0,some (.box (bM a1))⟩)⟩
def vI(a1:aA)(dZ:Bool):Option (Int):=(bif dZ then ((f58 a1.Row 0 (IntKind.i64.wrap (a1.aG.bV-1))).bind fun WT=>(bif WT then ((f58 a1.cQ 0 (IntKind.i64.wrap (a1.aG.bR-1))).bind fun z58=>(bif z58 then (bif (!a1.eV) then (lS a1 true) else (bif (decide (a1.cQ=(IntKind.i64.wrap (a1.aG.bR-1)))) then (lS a1 true) else (lS a1 false))) else (lS a1 false))) else (lS a1 false))) else (lS a1 false))
theorem rL(hd:6≤d){a1:aA}{r:Int}(hQ:FQ (pO r) Q){dZ:Bool}(hS:vI a1 dZ=some r): ∀st,au [1,3,5] [(16,.id 16),(32,.id 32)] [] st=afO a1 dZ→ZX d Q ajH [] st:=by
 intro st he
 refine ay he (zS (zL 2 (sL 34 hS (fun hS=>?_) (fun hS=>?_))))
 ·refine zL 5 (aq hS (fun WT aB7 hS=>zG (some 40) 34 true (.call 58 [(tm 36),(ki 0),(tm 39)]) (bX (qm (aU hd rfl) aB7)) (zL 2 (sL 42 hS (fun hS=>?_) (fun hS=>?_)))))
  ·refine zL 5 (aq hS (fun z58 amm hS=>zG (some 48) 42 true (.call 58 [(tm 44),(ki 0),(tm 47)]) (bX (qm (aU hd rfl) amm)) (zL 2 (sL 50 hS (fun hS=>?_) (fun hS=>?_)))))
   ·refine zL 4 (sL 54 hS (fun hS=>?_) (fun hS=>?_))
    ·exact zL 9 (zK (ow hd hQ hS _ (by kernel_rfl)))
    ·refine zL 5 (sB 60 hS (fun hS=>?_) (fun hS=>?_))
     ·exact zL 3 (zK (ow hd hQ hS _ (by kernel_rfl)))
     ·exact zL 3 (zK (ow hd hQ hS _ (by kernel_rfl)))
   ·exact zL 13 (zK (ow hd hQ hS _ (by kernel_rfl)))
  ·exact zL 21 (zK (ow hd hQ hS _ (by kernel_rfl)))
 ·exact jL (ow hd hQ hS)
def f22(a1:aA):Option (Int):=((f57 a1.aG).bind fun z59=>(bif (decide (z59=0)) then ((f57 a1.aT).bind fun uB=>(bif (decide (uB=0)) then (bif (decide (a1.aG.bR=a1.aT.bR)) then (bif (decide (a1.aG.bV=a1.aT.bV)) then (vI a1 true) else (vI a1 false)) else (vI a1 false)) else (vI a1 false))) else (vI a1 false)))
theorem ach{d:Nat}(hd:6≤d){a1:aA}{r:Int}(hS:f22 a1=some r):bW av aX d 22 [(.agg (bM a1))] []=some ((dI r),[]):=by
 refine cL pO hd (fun Q hQ=>?_) aly
 refine zS (zL 2 (zK (aC (cC (cy 8 (fL (cj (zS (zL 1 (aq hS (fun z59 Tl hS=>zC 12 (P6 (aU hd rfl) Tl) (sB 13 hS (fun hS=>?_) (fun hS=>?_)))))))))))))
 ·refine zL 2 (aq hS (fun uB awC hS=>zG (some 16) 14 true (c1 57 15) (bX (P6 (aU hd rfl) awC)) (sB 17 hS (fun hS=>?_) (fun hS=>?_))))
  ·refine zL 6 (sB 24 hS (fun hS=>?_) (fun hS=>?_))
   ·refine zL 6 (sB 31 hS (fun hS=>?_) (fun hS=>?_))
    ·exact zL 2 (zK (rL hd hQ hS _ (by kernel_rfl)))
    ·exact zL 2 (zK (rL hd hQ hS _ (by kernel_rfl)))
   ·exact zL 9 (zK (rL hd hQ hS _ (by kernel_rfl)))
  ·exact zL 16 (zK (rL hd hQ hS _ (by kernel_rfl)))
 ·exact jL (rL hd hQ hS)
/- farwriter/qneg.known -/
def azo(r:Bool)(e:PX)(st:St):Prop:=aV c62 0 ((dB r),[]) e st
def f62(a1:Int):Option (Bool):=(bif (decide (0≤a1)) then (bif (decide (a1≤5)) then (some true) else (some false)) else (some false))
theorem aci{d:Nat}(hd:1≤d){a1:Int}{r:Bool}(hS:f62 a1=some r):bW av aX d 62 [(dI a1)] []=some ((dB r),[]):=by
 refine cL azo hd (fun Q hQ=>?_) alZ
 refine zS (zL 1 (zK (zS (zL 1 (sB 4 hS (fun hS=>?_) (fun hS=>?_))))))
 ·refine zL 2 (sB 7 hS (fun hS=>?_) (fun hS=>?_))
  ·exact nL hS hQ
  ·exact nL hS hQ
 ·exact nL hS hQ
/- farwriter/qneg.Check -/
def JD(gq:Int):St:=⟨(up u0 2 (dI gq)),h0⟩
theorem Tm{gq:Int}:cP (JD gq) 0 Pf.res=some ((dI gq),[]):=by
 kernel_rfl
def Xc(r:Int)(e:PX)(st:St):Prop:=aV Pf 0 ((dI r),[]) e st
def afP(a1:eT)(x:Int):St:=⟨(up (up (up (up u0 16 (dI x)) 15 (.agg ((cH.row 256 a1.Us)++ []))) 12 (dI 0)) 11 (AD a1)),h0⟩
def uC(a1:eT)(x:Int)(st:St):Prop:=au [11,12,15,16] [] [] st=afP a1 x
def Dw(a1:eT):St:=⟨(up (up u0 12 (dI 0)) 11 (AD a1)),h0⟩
def zy(a1:eT)(z:Unit⊕Int)(e:PX)(st:St):Prop:=(match z with | .inl z=>e= .exit 2∧st=Dw a1 | .inr z=>e= .ret∧dY Pf.fin st=JD z)
def Qb(a1:eT)(B2:Int):St:=⟨(up (up (up (up u0 16 (dI B2)) 15 (.agg ((cH.row 256 a1.Us)++ []))) 12 (dI 0)) 11 (AD a1)),h0⟩
def B3(a1:eT)(B2:Int):Option (Int⊕(Unit⊕Int)):=((jG B2 256).bind fun m28=>((f62 ((a1.Us m28).toNat:Int)).bind fun ox=>(bif (!ox) then (some (.inr (.inr 4))) else (some (.inl (IntKind.i64.wrap (B2+1)))))))
theorem LH(hd:2≤d){a1:eT}{r:Int⊕(Unit⊕Int)}(hQ:FQ (bG (uC a1) (zy a1) r) Q){B2:Int}(hS:B3 a1 B2=some r): ∀st,au [11,12,15,16] [] [] st=Qb a1 B2→ZX d Q Wk [] st:=by
 intro st he
 refine ay he (aC (bz (zS (aq hS (fun m28 aB9 hS=>zO (v:=(.d (.int .u8 ((a1.Us m28).toNat:Int)))) (aD:= []) (some 18) (.GH .false 256 1 (tm 15) (tm 16)) (zb cH a1.Us (kk:= .i64) (j:=B2) (by kernel_rfl) (by kernel_rfl) aB9 rfl (by kernel_rfl) (by kernel_rfl)) (zL 1 (zK (zS (zL 1 (zO (v:=(dI ((a1.Us m28).toNat:Int))) (aD:= []) (some 20) (.ku .i64 (tm 19)) (gC (kk:= .u8) (a:=((a1.Us m28).toNat:Int)) (by kernel_rfl) (qf _)) (aq hS (fun ox JE hS=>zC 21 (aci (aU hd rfl) JE) (zL 1 (zK (sR 22 hS (fun hS=>?_) (fun hS=>?_))))))))))))))))
 ·exact zT (zS (zL 1 (zK (cM (cr (bP (bk (mX hS hQ))))))))
 ·exact lR hS hQ
def Qc(a1:eT)(k7:Int)(Am:Bool):St:=⟨(up (up (up (up (up u0 17 (dB Am)) 16 (dI k7)) 15 (.agg ((cH.row 256 a1.Us)++ []))) 12 (dI 0)) 11 (AD a1)),h0⟩
def vJ(a1:eT)(k7:Int)(Am:Bool):Option (Int⊕(Unit⊕Int)):=(bif Am then (B3 a1 k7) else (some (.inr (.inl ()))))
theorem AY(hd:2≤d){a1:eT}{r:Int⊕(Unit⊕Int)}(hQ:FQ (bG (uC a1) (zy a1) r) Q){k7:Int}{Am:Bool}(hS:vJ a1 k7 Am=some r): ∀st,au [11,12,15,16,17] [] [] st=Qc a1 k7 Am→ZX d Q Wl [] st:=by
 intro st he
 refine ay he (aC (sR 17 hS (fun hS=>?_) (fun hS=>?_)))
 ·exact jR (LH hd hQ hS)
 ·exact zF (ay (J:=Dw a1) (by kernel_rfl) (dh (cY (bk (jA hS hQ)))))
def zA(a1:eT)(x:Int):Option (Int⊕(Unit⊕Int)):=(bif (decide (x<256)) then (vJ a1 x true) else (vJ a1 x false))
theorem Xd(hd:2≤d){a1:eT}{r:Int⊕(Unit⊕Int)}(hQ:FQ (bG (uC a1) (zy a1) r) Q){x:Int}(hS:zA a1 x=some r)(he:uC a1 x st):ZX d Q Wm [] st:=by
 refine ay he (zS (sB 17 hS (fun hS=>?_) (fun hS=>?_)))
 ·exact zK (AY hd hQ hS _ (by kernel_rfl))
 ·exact jL (AY hd hQ hS)
def afQ(a1:eT)(x:Int):St:=⟨(up (up (up (up u0 16 (dI x)) 15 (.agg ((cH.row 256 a1.mK)++ []))) 12 (dI 1)) 11 (AD a1)),h0⟩
def uD(a1:eT)(x:Int)(st:St):Prop:=au [11,12,15,16] [] [] st=afQ a1 x
def Dx(a1:eT):St:=⟨(up (up u0 12 (dI 1)) 11 (AD a1)),h0⟩
def zB(a1:eT)(z:Unit⊕Int)(e:PX)(st:St):Prop:=(match z with | .inl z=>e= .exit 2∧st=Dx a1 | .inr z=>e= .ret∧dY Pf.fin st=JD z)
def Qd(a1:eT)(Tn:Int):St:=⟨(up (up (up (up u0 16 (dI Tn)) 15 (.agg ((cH.row 256 a1.mK)++ []))) 12 (dI 1)) 11 (AD a1)),h0⟩
def B4(a1:eT)(Tn:Int):Option (Int⊕(Unit⊕Int)):=((jG Tn 256).bind fun m33=>((f62 ((a1.mK m33).toNat:Int)).bind fun Qe=>(bif (!Qe) then (some (.inr (.inr 4))) else (some (.inl (IntKind.i64.wrap (Tn+1)))))))
theorem LJ(hd:2≤d){a1:eT}{r:Int⊕(Unit⊕Int)}(hQ:FQ (bG (uD a1) (zB a1) r) Q){Tn:Int}(hS:B4 a1 Tn=some r): ∀st,au [11,12,15,16] [] [] st=Qd a1 Tn→ZX d Q Wk [] st:=by
 intro st he
 refine ay he (aC (bz (zS (aq hS (fun m33 aB_ hS=>zO (v:=(.d (.int .u8 ((a1.mK m33).toNat:Int)))) (aD:= []) (some 18) (.GH .false 256 1 (tm 15) (tm 16)) (zb cH a1.mK (kk:= .i64) (j:=Tn) (by kernel_rfl) (by kernel_rfl) aB_ rfl (by kernel_rfl) (by kernel_rfl)) (zL 1 (zK (zS (zL 1 (zO (v:=(dI ((a1.mK m33).toNat:Int))) (aD:= []) (some 20) (.ku .i64 (tm 19)) (gC (kk:= .u8) (a:=((a1.mK m33).toNat:Int)) (by kernel_rfl) (qf _)) (aq hS (fun Qe awD hS=>zC 21 (aci (aU hd rfl) awD) (zL 1 (zK (sR 22 hS (fun hS=>?_) (fun hS=>?_))))))))))))))))
 ·exact zT (zS (zL 1 (zK (cM (cr (bP (bk (mX hS hQ))))))))
 ·exact lR hS hQ
def Qf(a1:eT)(oq:Int)(mM:Bool):St:=⟨(up (up (up (up (up u0 17 (dB mM)) 16 (dI oq)) 15 (.agg ((cH.row 256 a1.mK)++ []))) 12 (dI 1)) 11 (AD a1)),h0⟩
def vK(a1:eT)(oq:Int)(mM:Bool):Option (Int⊕(Unit⊕Int)):=(bif mM then (B4 a1 oq) else (some (.inr (.inl ()))))
theorem AZ(hd:2≤d){a1:eT}{r:Int⊕(Unit⊕Int)}(hQ:FQ (bG (uD a1) (zB a1) r) Q){oq:Int}{mM:Bool}(hS:vK a1 oq mM=some r): ∀st,au [11,12,15,16,17] [] [] st=Qf a1 oq mM→ZX d Q Wl [] st:=by
 intro st he
 refine ay he (aC (sR 17 hS (fun hS=>?_) (fun hS=>?_)))
 ·exact jR (LJ hd hQ hS)
 ·exact zF (ay (J:=Dx a1) (by kernel_rfl) (dh (cY (bk (jA hS hQ)))))
def zD(a1:eT)(x:Int):Option (Int⊕(Unit⊕Int)):=(bif (decide (x<256)) then (vK a1 x true) else (vK a1 x false))
theorem Xe(hd:2≤d){a1:eT}{r:Int⊕(Unit⊕Int)}(hQ:FQ (bG (uD a1) (zB a1) r) Q){x:Int}(hS:zD a1 x=some r)(he:uD a1 x st):ZX d Q Wm [] st:=by
 refine ay he (zS (sB 17 hS (fun hS=>?_) (fun hS=>?_)))
 ·exact zK (AZ hd hQ hS _ (by kernel_rfl))
 ·exact jL (AZ hd hQ hS)
def afR(a1:eT):St:=⟨(up (up u0 12 (dI 1)) 11 (AD a1)),h0⟩
def Qg(a1:eT):Option (Int):=((b9 (zD a1) 0).bind fun JF=>(Sum.elim (fun z36=>(some 0)) (fun z37=>(some z37)) JF))
theorem Xf(hd:2≤d){a1:eT}{r:Int}(hQ:FQ (Xc r) Q)(hS:Qg a1=some r): ∀st,au [11,12] [] [] st=afR a1→ZX d Q Wn [.seq Wo,.blk 0,.seq Wp] st:=by
 intro st he
 refine ay he (aC (bz (zS (zL 3 (zK (zS (zL 2 (zK (bz (aq hS (fun JF awE hS=>dN (uD a1) (zB a1) (fun x st r Q h0 hS hQ=>Xe hd hQ hS h0) (x:=0) (z:=JF) (by show au _ _ _ _=_;kernel_rfl) awE ?_)))))))))))
 rcases JF with z36 | z37
 ·replace hS:=(show _=_ from hS)
  simp only [ua] at hS
  intro e bl _ hX
  obtain ⟨rfl,rfl⟩:_∧_:=hX
  exact nK hS hQ
 ·simp only [ud] at hS
  intro e bl _ hX
  obtain ⟨rfl,hX⟩:_∧_:=hX
  exact cr (cr (bP (bP (cr (bP (bk (eA hS hQ (jv (by kernel_rfl) ((congrArg (fun s=>cP s 0 Pf.res) hX).trans Tm)))))))))
def afS(a1:eT):St:=⟨(up (up u0 12 (dI 0)) 11 (AD a1)),h0⟩
def Qh(a1:eT):Option (Int):=((b9 (zA a1) 0).bind fun JG=>(Sum.elim (fun z31=>(Qg a1)) (fun JH=>(some JH)) JG))
theorem Xg(hd:2≤d){a1:eT}{r:Int}(hQ:FQ (Xc r) Q)(hS:Qh a1=some r): ∀st,au [11,12] [] [] st=afS a1→ZX d Q Wn [.seq Wo,.blk 0,.seq Wp] st:=by
 intro st he
 refine ay he (aC (bz (zS (zL 3 (zK (zS (zL 2 (zK (bz (aq hS (fun JG Tp hS=>dN (uC a1) (zy a1) (fun x st r Q h0 hS hQ=>Xd hd hQ hS h0) (x:=0) (z:=JG) (by show au _ _ _ _=_;kernel_rfl) Tp ?_)))))))))))
 rcases JG with z31 | JH
 ·replace hS:=(show _=_ from hS)
  simp only [ua] at hS
  intro e bl _ hX
  obtain ⟨rfl,rfl⟩:_∧_:=hX
  exact jK (Xf hd hQ hS)
 ·simp only [ud] at hS
  intro e bl _ hX
  obtain ⟨rfl,hX⟩:_∧_:=hX
  exact cr (cr (bP (bP (cr (bP (bk (eA hS hQ (jv (by kernel_rfl) ((congrArg (fun s=>cP s 0 Pf.res) hX).trans Tm)))))))))
def f23(a1:eT):Option (Int):=(Qh a1)
theorem atW{d:Nat}(hd:2≤d){a1:eT}{r:Int}(hS:f23 a1=some r):bW av aX d 23 [(.agg ((cH.row 256 a1.Us)++((cH.row 256 a1.mK)++(((cE .u64).row 4 a1.Az)++(((cE .u64).row 4 a1.tH)++ [])))))] []=some ((dI r),[]):=by
 refine cL Xc hd (fun Q hQ=>?_) alz
 exact jR (Xg hd hQ hS)
/- farwriter/about.Name -/
def Tq(gK:Bool):St:=⟨(up u0 2 (dB gK)),h0⟩
theorem amy{gK:Bool}:cP (Tq gK) 0 Wq.res=some ((dB gK),[]):=by
 kernel_rfl
def amz(r:Bool)(e:PX)(st:St):Prop:=aV Wq 0 ((dB r),[]) e st
def afT(a1:S8):St:=⟨(up u0 0 (.d (.str a1))),h0⟩
def Qi(a1:S8):Option (Bool):=(bif (!decide (a1=([]:S8))) then (bif (decide ((a1.length:Int)≤40)) then (some true) else (some false)) else (some false))
theorem Xh(hd:1≤d){a1:S8}{r:Bool}(hQ:FQ (amz r) Q)(hS:Qi a1=some r): ∀st,au [0] [] [] st=afT a1→ZX d Q ajL [] st:=by
 intro st he
 refine ay he (zS (zL 1 (sB 21 hS (fun hS=>?_) (fun hS=>?_))))
 ·refine zL 3 (sB 25 hS (fun hS=>?_) (fun hS=>?_))
  ·exact nL hS hQ
  ·exact nL hS hQ
 ·exact nL hS hQ
def afU(a1:S8)(x:Int):St:=⟨(up (up (up u0 6 (dI x)) 5 (dI (a1.length:Int))) 0 (.d (.str a1))),h0⟩
def uE(a1:S8)(x:Int)(st:St):Prop:=au [0,5,6] [] [] st=afU a1 x
def Dy(a1:S8):St:=⟨(up u0 0 (.d (.str a1))),h0⟩
def zH(a1:S8)(z:Unit⊕Bool)(e:PX)(st:St):Prop:=(match z with | .inl z=>e= .exit 0∧st=Dy a1 | .inr z=>e= .ret∧dY Wq.fin st=Tq z)
def Qj(a1:S8)(k7:Int):St:=⟨(up (up (up u0 6 (dI k7)) 5 (dI (a1.length:Int))) 0 (.d (.str a1))),h0⟩
def B5(a1:S8)(k7:Int):Option (Int⊕(Unit⊕Bool)):=((idx a1 k7).bind fun z7=>(bif (decide ((z7.toNat:Int)<33)) then (some (.inr (.inr false))) else ((idx a1 k7).bind fun z8=>(bif (decide (126<(z8.toNat:Int))) then (some (.inr (.inr false))) else (some (.inl (IntKind.i64.wrap (k7+1))))))))
theorem LL(hd:1≤d){a1:S8}{r:Int⊕(Unit⊕Bool)}(hQ:FQ (bG (uE a1) (zH a1) r) Q){k7:Int}(hS:B5 a1 k7=some r): ∀st,au [0,5,6] [] [] st=Qj a1 k7→ZX d Q ajI [] st:=by
 intro st he
 refine ay he (aC (bz (zS (zL 2 (zK (zS (zL 2 (aq hS (fun z7 l8 hS=>zO (v:=(.d (.int .u8 (z7.toNat:Int)))) (aD:= []) (some 11) (.iw (tm 9) (tm 10)) (fq (kk:= .i64) (s:=a1) (j:=k7) (by kernel_rfl) (by kernel_rfl) l8) (sB 12 hS (fun hS=>?_) (fun hS=>?_)))))))))))
 ·exact zL 6 (zK (zT (zS (zL 1 (zK (cM (cr (bP (bk (mX hS hQ))))))))))
 ·refine zL 3 (aq hS (fun z8 je hS=>zG (v:=(.d (.int .u8 (z8.toNat:Int)))) (aD:= []) (some 16) 13 false (.iw (tm 14) (tm 15)) (fq (kk:= .i64) (s:=a1) (j:=k7) (by kernel_rfl) (by kernel_rfl) je) (sB 17 hS (fun hS=>?_) (fun hS=>?_))))
  ·exact zL 1 (zK (zT (zS (zL 1 (zK (cM (cr (bP (bk (mX hS hQ))))))))))
  ·exact lL hS hQ
def Qk(a1:S8)(iu:Int)(ld:Bool):St:=⟨(up (up (up (up u0 7 (dB ld)) 6 (dI iu)) 5 (dI (a1.length:Int))) 0 (.d (.str a1))),h0⟩
def rM(a1:S8)(iu:Int)(ld:Bool):Option (Int⊕(Unit⊕Bool)):=(bif ld then (B5 a1 iu) else (some (.inr (.inl ()))))
theorem A1(hd:1≤d){a1:S8}{r:Int⊕(Unit⊕Bool)}(hQ:FQ (bG (uE a1) (zH a1) r) Q){iu:Int}{ld:Bool}(hS:rM a1 iu ld=some r): ∀st,au [0,5,6,7] [] [] st=Qk a1 iu ld→ZX d Q ajJ [] st:=by
 intro st he
 refine ay he (aC (sR 7 hS (fun hS=>?_) (fun hS=>?_)))
 ·exact jR (LL hd hQ hS)
 ·exact zF (ay (J:=Dy a1) (by kernel_rfl) (dh (cY (bk (jA hS hQ)))))
def Dz(a1:S8)(x:Int):Option (Int⊕(Unit⊕Bool)):=(bif (decide (x<(a1.length:Int))) then (rM a1 x true) else (rM a1 x false))
theorem Xi(hd:1≤d){a1:S8}{r:Int⊕(Unit⊕Bool)}(hQ:FQ (bG (uE a1) (zH a1) r) Q){x:Int}(hS:Dz a1 x=some r)(he:uE a1 x st):ZX d Q ajK [] st:=by
 refine ay he (zS (sB 7 hS (fun hS=>?_) (fun hS=>?_)))
 ·exact zK (A1 hd hQ hS _ (by kernel_rfl))
 ·exact jL (A1 hd hQ hS)
def f63(a1:S8):Option (Bool):=((b9 (Dz a1) 0).bind fun z9=>(Sum.elim (fun dG=>(Qi a1)) (fun cS=>(some cS)) z9))
theorem atX{d:Nat}(hd:1≤d){a1:S8}{r:Bool}(hS:f63 a1=some r):bW av aX d 63 [(.d (.str a1))] []=some ((dB r),[]):=by
 refine cL amz hd (fun Q hQ=>?_) al0
 refine zS (zL 1 (zK (aC (zS (zL 3 (zK (bz (aq hS (fun z9 jI hS=>dN (uE a1) (zH a1) (fun x st r Q h0 hS hQ=>Xi hd hQ hS h0) (x:=0) (z:=z9) (by show au _ _ _ _=_;kernel_rfl) jI ?_)))))))))
 rcases z9 with dG | cS
 ·replace hS:=(show _=_ from hS)
  simp only [ua] at hS
  intro e bl _ hX
  obtain ⟨rfl,rfl⟩:_∧_:=hX
  exact jK (Xh hd hQ hS)
 ·simp only [ud] at hS
  intro e bl _ hX
  obtain ⟨rfl,hX⟩:_∧_:=hX
  exact cr (bP (bk (eA hS hQ (jv (by kernel_rfl) ((congrArg (fun s=>cP s 0 Wq.res) hX).trans amy)))))
/- slices.Index[[]string,string] -/
def Ts(pR:Int):St:=⟨(up u0 4 (dI pR)),h0⟩
theorem amA{pR:Int}:cP (Ts pR) 0 Ws.res=some ((dI pR),[]):=by
 kernel_rfl
def azq(r:Int)(e:PX)(st:St):Prop:=aV Ws 0 ((dI r),[]) e st
def afV(a1:List S8)(a2:S8)(x:Int):St:=⟨(up (up (up (up u0 8 (dI x)) 7 (dI (a1.length:Int))) 1 (.d (.str a2))) 0 (dE dM a1)),h0⟩
def uF(a1:List S8)(a2:S8)(x:Int)(st:St):Prop:=au [0,1,7,8] [] [] st=afV a1 a2 x
def DB(a1:List S8)(a2:S8):St:=⟨u0,h0⟩
def zI(a1:List S8)(a2:S8)(z:Unit⊕Int)(e:PX)(st:St):Prop:=(match z with | .inl z=>e= .exit 0∧st=DB a1 a2 | .inr z=>e= .ret∧dY Ws.fin st=Ts z)
def Ql(a1:List S8)(a2:S8)(iu:Int):St:=⟨(up (up (up (up u0 8 (dI iu)) 7 (dI (a1.length:Int))) 1 (.d (.str a2))) 0 (dE dM a1)),h0⟩
def B6(a1:List S8)(a2:S8)(iu:Int):Option (Int⊕(Unit⊕Int)):=((idx a1 iu).bind fun z4=>(bif (decide (a2=z4)) then (some (.inr (.inr iu))) else (some (.inl (IntKind.i64.wrap (iu+1))))))
theorem LM(hd:1≤d){a1:List S8}{a2:S8}{r:Int⊕(Unit⊕Int)}(hQ:FQ (bG (uF a1 a2) (zI a1 a2) r) Q){iu:Int}(hS:B6 a1 a2 iu=some r): ∀st,au [0,1,7,8] [] [] st=Ql a1 a2 iu→ZX d Q ajM [] st:=by
 intro st he
 refine ay he (aC (bz (zS (zL 2 (zK (zS (zL 3 (aq hS (fun z4 jf hS=>zO (v:=(.cD (dM.enc z4++(dM.cells (a1.drop ((iu:Int).toNat+1)))))) (aD:= []) (some 14) (.jz 9 1 (tm 12) (tm 13)) (fQ dM (kk:= .i64) (xs:=a1) (j:=iu) (by kernel_rfl) (by kernel_rfl) jf rfl (by intro h;cases h)) (zL 1 (sB 16 hS (fun hS=>?_) (fun hS=>?_))))))))))))
 ·exact zK (zT (zS (zL 2 (zK (cM (cr (bP (bk (mX hS hQ)))))))))
 ·exact lL hS hQ
def Qm(a1:List S8)(a2:S8)(jB:Int)(mN:Bool):St:=⟨(up (up (up (up (up u0 9 (dB mN)) 8 (dI jB)) 7 (dI (a1.length:Int))) 1 (.d (.str a2))) 0 (dE dM a1)),h0⟩
def rN(a1:List S8)(a2:S8)(jB:Int)(mN:Bool):Option (Int⊕(Unit⊕Int)):=(bif mN then (B6 a1 a2 jB) else (some (.inr (.inl ()))))
theorem A2(hd:1≤d){a1:List S8}{a2:S8}{r:Int⊕(Unit⊕Int)}(hQ:FQ (bG (uF a1 a2) (zI a1 a2) r) Q){jB:Int}{mN:Bool}(hS:rN a1 a2 jB mN=some r): ∀st,au [0,1,7,8,9] [] [] st=Qm a1 a2 jB mN→ZX d Q ajN [] st:=by
 intro st he
 refine ay he (aC (sR 9 hS (fun hS=>?_) (fun hS=>?_)))
 ·exact jR (LM hd hQ hS)
 ·exact zF (ay (J:=DB a1 a2) (by kernel_rfl) (dh (cY (bk (jA hS hQ)))))
def DC(a1:List S8)(a2:S8)(x:Int):Option (Int⊕(Unit⊕Int)):=(bif (decide (x<(a1.length:Int))) then (rN a1 a2 x true) else (rN a1 a2 x false))
theorem Xj(hd:1≤d){a1:List S8}{a2:S8}{r:Int⊕(Unit⊕Int)}(hQ:FQ (bG (uF a1 a2) (zI a1 a2) r) Q){x:Int}(hS:DC a1 a2 x=some r)(he:uF a1 a2 x st):ZX d Q ajO [] st:=by
 refine ay he (zS (sB 9 hS (fun hS=>?_) (fun hS=>?_)))
 ·exact zK (A2 hd hQ hS _ (by kernel_rfl))
 ·exact jL (A2 hd hQ hS)
def f93(a1:List S8)(a2:S8):Option (Int):=((b9 (DC a1 a2) 0).bind fun z5=>(Sum.elim (fun z6=>(some (-1))) (fun z7=>(some z7)) z5))
theorem atY{d:Nat}(hd:1≤d){a1:List S8}{a2:S8}{r:Int}(hS:f93 a1 a2=some r):bW av aX d 93 [(dE dM a1),(.d (.str a2))] []=some ((dI r),[]):=by
 refine cL azq hd (fun Q hQ=>?_) ame
 refine zS (zL 1 (zK (aC (zS (zL 3 (zK (bz (aq hS (fun z5 jZ hS=>dN (uF a1 a2) (zI a1 a2) (fun x st r Q h0 hS hQ=>Xj hd hQ hS h0) (x:=0) (z:=z5) (by show au _ _ _ _=_;kernel_rfl) jZ ?_)))))))))
 rcases z5 with z6 | z7
 ·replace hS:=(show _=_ from hS)
  simp only [ua] at hS
  intro e bl _ hX
  obtain ⟨rfl,rfl⟩:_∧_:=hX
  exact nK hS hQ
 ·simp only [ud] at hS
  intro e bl _ hX
  obtain ⟨rfl,hX⟩:_∧_:=hX
  exact cr (bP (bk (eA hS hQ (jv (by kernel_rfl) ((congrArg (fun s=>cP s 0 Ws.res) hX).trans amA)))))
/- slices.Contains[[]string,string] -/
def azr(r:Bool)(e:PX)(st:St):Prop:=aV c64 0 ((dB r),[]) e st
def f64(a1:List S8)(a2:S8):Option (Bool):=((f93 a1 a2).bind fun z2=>(bif (decide (0≤z2)) then (some true) else (some false)))
theorem atZ{d:Nat}(hd:2≤d){a1:List S8}{a2:S8}{r:Bool}(hS:f64 a1 a2=some r):bW av aX d 64 [(dE dM a1),(.d (.str a2))] []=some ((dB r),[]):=by
 refine cL azr hd (fun Q hQ=>?_) al1
 refine zS (zL 1 (zK (zS (zL 2 (aq hS (fun z2 hz2 hS=>zC 7 (atY (aU hd rfl) hz2) (sB 8 hS (fun hS=>?_) (fun hS=>?_))))))))
 ·exact nL hS hQ
 ·exact nL hS hQ
/- farwriter/about.Check -/
def Tt(pR:Int):St:=⟨(up u0 2 (dI pR)),h0⟩
theorem amB{pR:Int}:cP (Tt pR) 0 Wt.res=some ((dI pR),[]):=by
 kernel_rfl
def Xk(r:Int)(e:PX)(st:St):Prop:=aV Wt 0 ((dI r),[]) e st
def afW(a1:cu):St:=⟨(up u0 1 (pt 16)),(Nf a1)⟩
def Qn(a1:cu):Option (Int):=(bif (decide (a1.At<0)) then (some 1) else (bif (decide ((a1.Names.length:Int)<a1.At)) then (some 1) else (some 0)))
theorem Xl(hd:3≤d){a1:cu}{r:Int}(hQ:FQ (Xk r) Q)(hS:Qn a1=some r): ∀st,au [1] [(16,.id 16)] [] st=afW a1→ZX d Q ajS [] st:=by
 intro st he
 refine ay he (aC (zS (zL 2 (sB 37 hS (fun hS=>?_) (fun hS=>?_)))))
 ·exact nL hS hQ
 ·refine zL 6 (sB 44 hS (fun hS=>?_) (fun hS=>?_))
  ·exact nL hS hQ
  ·exact nL hS hQ
def afX(a1:cu)(x:Int):St:=⟨(up (up (up (up u0 18 (dI x)) 17 (dI (a1.Names.length:Int))) 16 (dE dM a1.Names)) 1 (pt 16)),(Nf a1)⟩
def uG(a1:cu)(x:Int)(st:St):Prop:=au [1,16,17,18] [(16,.id 16)] [] st=afX a1 x
def DD(a1:cu):St:=⟨(up u0 1 (pt 16)),(Nf a1)⟩
def zJ(a1:cu)(z:Unit⊕Int)(e:PX)(st:St):Prop:=(match z with | .inl z=>e= .exit 0∧st=DD a1 | .inr z=>e= .ret∧dY Wt.fin st=Tt z)
def Qo(a1:cu)(ld:Int):St:=⟨(up (up (up (up u0 18 (dI ld)) 17 (dI (a1.Names.length:Int))) 16 (dE dM a1.Names)) 1 (pt 16)),(Nf a1)⟩
def B7(a1:cu)(ld:Int):Option (Int⊕(Unit⊕Int)):=((idx a1.Names ld).bind fun dP=>((f63 dP).bind fun dU=>(bif (!dU) then (some (.inr (.inr 4))) else ((pW a1.Names 0 ld).bind fun fk=>((f64 fk dP).bind fun dy=>(bif dy then (some (.inr (.inr 4))) else (some (.inl (IntKind.i64.wrap (ld+1))))))))))
theorem LN(hd:3≤d){a1:cu}{r:Int⊕(Unit⊕Int)}(hQ:FQ (bG (uG a1) (zJ a1) r) Q){ld:Int}(hS:B7 a1 ld=some r): ∀st,au [1,16,17,18] [(16,.id 16)] [] st=Qo a1 ld→ZX d Q ajP [] st:=by
 intro st he
 refine ay he (aC (bz (zS (zL 1 (aq hS (fun dP jn hS=>zO (v:=(.cD (dM.enc dP++(dM.cells (a1.Names.drop ((ld:Int).toNat+1)))))) (aD:= []) (some 21) (.jz 9 1 (tm 16) (tm 18)) (fQ dM (kk:= .i64) (xs:=a1.Names) (j:=ld) (by kernel_rfl) (by kernel_rfl) jn rfl (by intro h;cases h)) (zL 3 (zK (zS (zL 1 (aq hS (fun dU kg hS=>zC 24 (atX (aU hd rfl) kg) (zL 2 (sL 26 hS (fun hS=>?_) (fun hS=>?_)))))))))))))))
 ·exact zL 7 (zK (zT (zS (zL 1 (zK (cM (cr (bP (bk (mX hS hQ))))))))))
 ·refine zL 3 (aq hS (fun fk kX hS=>zG (v:=(dE dM fk)) (aD:= []) (some 30) 26 false (.uW 9 1 (tm 28) .none (.some (tm 29))) (Zr dM (xs:=a1.Names) (a:=0) (c:=ld) (by kernel_rfl) rfl (BJ 0) (lY _ (kk:= .i64) (j:=ld) (by kernel_rfl)) kX) (zL 1 (aq hS (fun dy jm hS=>zG (some 32) 26 false (.call 64 [(tm 30),(tm 31)]) (bX (atZ (aU hd rfl) jm)) (zL 1 (zK (sR 33 hS (fun hS=>?_) (fun hS=>?_)))))))))
  ·exact zT (zS (zL 1 (zK (cM (cr (bP (bk (mX hS hQ))))))))
  ·exact lR hS hQ
def Qp(a1:cu)(mN:Int)(iu:Bool):St:=⟨(up (up (up (up (up u0 19 (dB iu)) 18 (dI mN)) 17 (dI (a1.Names.length:Int))) 16 (dE dM a1.Names)) 1 (pt 16)),(Nf a1)⟩
def rO(a1:cu)(mN:Int)(iu:Bool):Option (Int⊕(Unit⊕Int)):=(bif iu then (B7 a1 mN) else (some (.inr (.inl ()))))
theorem A3(hd:3≤d){a1:cu}{r:Int⊕(Unit⊕Int)}(hQ:FQ (bG (uG a1) (zJ a1) r) Q){mN:Int}{iu:Bool}(hS:rO a1 mN iu=some r): ∀st,au [1,16,17,18,19] [(16,.id 16)] [] st=Qp a1 mN iu→ZX d Q ajQ [] st:=by
 intro st he
 refine ay he (aC (sR 19 hS (fun hS=>?_) (fun hS=>?_)))
 ·exact jR (LN hd hQ hS)
 ·exact zF (ay (J:=DD a1) (by kernel_rfl) (dh (cY (bk (jA hS hQ)))))
def DF(a1:cu)(x:Int):Option (Int⊕(Unit⊕Int)):=(bif (decide (x<(a1.Names.length:Int))) then (rO a1 x true) else (rO a1 x false))
theorem Xm(hd:3≤d){a1:cu}{r:Int⊕(Unit⊕Int)}(hQ:FQ (bG (uG a1) (zJ a1) r) Q){x:Int}(hS:DF a1 x=some r)(he:uG a1 x st):ZX d Q ajR [] st:=by
 refine ay he (zS (sB 19 hS (fun hS=>?_) (fun hS=>?_)))
 ·exact zK (A3 hd hQ hS _ (by kernel_rfl))
 ·exact jL (A3 hd hQ hS)
def afY(a1:cu):St:=⟨(up u0 1 (pt 16)),(Nf a1)⟩
def Hr(a1:cu):Option (Int):=((b9 (DF a1) 0).bind fun fC=>(Sum.elim (fun fD=>(Qn a1)) (fun gy=>(some gy)) fC))
theorem Xn(hd:3≤d){a1:cu}{r:Int}(hQ:FQ (Xk r) Q)(hS:Hr a1=some r): ∀st,au [1] [(16,.id 16)] [] st=afY a1→ZX d Q ajT [] st:=by
 intro st he
 refine ay he (aC (zS (zL 4 (zK (bz (aq hS (fun fC ke hS=>dN (uG a1) (zJ a1) (fun x st r Q h0 hS hQ=>Xm hd hQ hS h0) (x:=0) (z:=fC) (by show au _ _ _ _=_;kernel_rfl) ke ?_)))))))
 rcases fC with fD | gy
 ·replace hS:=(show _=_ from hS)
  simp only [ua] at hS
  intro e bl _ hX
  obtain ⟨rfl,rfl⟩:_∧_:=hX
  exact jK (Xl hd hQ hS)
 ·simp only [ud] at hS
  intro e bl _ hX
  obtain ⟨rfl,hX⟩:_∧_:=hX
  exact cr (bP (bk (eA hS hQ (jv (by kernel_rfl) ((congrArg (fun s=>cP s 0 Wt.res) hX).trans amB)))))
def f24(a1:cu):Option (Int):=(bif (decide ((a1.Names.length:Int)<1)) then (some 1) else (bif (decide (8<(a1.Names.length:Int))) then (some 1) else (Hr a1)))
theorem at0{d:Nat}(hd:3≤d){a1:cu}{r:Int}(hS:f24 a1=some r):bW av aX d 24 [(.agg ((dE dM a1.Names)::((dI a1.At):: [])))] []=some ((dI r),[]):=by
 refine cL Xk hd (fun Q hQ=>?_) alA
 refine zS (zL 2 (zK (aC (zS (zL 3 (sB 8 hS (fun hS=>?_) (fun hS=>?_)))))))
 ·exact nL hS hQ
 ·refine zL 4 (sB 13 hS (fun hS=>?_) (fun hS=>?_))
  ·exact nL hS hQ
  ·exact jL (Xn hd hQ hS)
/- farwriter/slc.Check -/
def Tu(gK:Int):St:=⟨(up u0 2 (dI gK)),h0⟩
theorem amC{gK:Int}:cP (Tu gK) 0 Wu.res=some ((dI gK),[]):=by
 kernel_rfl
def amD(r:Int)(e:PX)(st:St):Prop:=aV Wu 0 ((dI r),[]) e st
def afZ(a1:g_):St:=⟨(up u0 1 (pt 16)),(SC a1)⟩
def Qq(a1:g_):Option (Int):=(bif (!decide (((a1.iZ 0).toNat:Int)=0)) then (some 4) else (bif (!decide (((a1.rq 0).toNat:Int)=0)) then (some 4) else (some 0)))
theorem Xo(hd:1≤d){a1:g_}{r:Int}(hQ:FQ (amD r) Q)(hS:Qq a1=some r): ∀st,au [1] [(16,.id 16)] [] st=afZ a1→ZX d Q ajX [] st:=by
 intro st he
 refine ay he (aC (zS (zL 3 (sB 16 hS (fun hS=>?_) (fun hS=>?_)))))
 ·exact nL hS hQ
 ·refine zL 4 (sB 21 hS (fun hS=>?_) (fun hS=>?_))
  ·exact nL hS hQ
  ·exact nL hS hQ
def af0(a1:g_)(x:Int):St:=⟨(up (up (up u0 7 (dI x)) 6 (.agg ((cH.row 19 a1.iZ)++ []))) 1 (pt 16)),(SC a1)⟩
def uH(a1:g_)(x:Int)(st:St):Prop:=au [1,6,7] [(16,.id 16)] [] st=af0 a1 x
def DG(a1:g_):St:=⟨(up u0 1 (pt 16)),(SC a1)⟩
def zM(a1:g_)(z:Unit⊕Int)(e:PX)(st:St):Prop:=(match z with | .inl z=>e= .exit 0∧st=DG a1 | .inr z=>e= .ret∧dY Wu.fin st=Tu z)
def Qr(a1:g_)(k7:Int):St:=⟨(up (up (up u0 7 (dI k7)) 6 (.agg ((cH.row 19 a1.iZ)++ []))) 1 (pt 16)),(SC a1)⟩
def B8(a1:g_)(k7:Int):Option (Int⊕(Unit⊕Int)):=((jG k7 19).bind fun m3=>(bif (decide (2<((a1.iZ m3).toNat:Int))) then (some (.inr (.inr 4))) else (some (.inl (IntKind.i64.wrap (k7+1))))))
theorem LQ(hd:1≤d){a1:g_}{r:Int⊕(Unit⊕Int)}(hQ:FQ (bG (uH a1) (zM a1) r) Q){k7:Int}(hS:B8 a1 k7=some r): ∀st,au [1,6,7] [(16,.id 16)] [] st=Qr a1 k7→ZX d Q ajU [] st:=by
 intro st he
 refine ay he (aC (bz (zS (aq hS (fun m3 hm3 hS=>zO (v:=(.d (.int .u8 ((a1.iZ m3).toNat:Int)))) (aD:= []) (some 9) (.GH .false 19 1 (tm 6) (tm 7)) (zb cH a1.iZ (kk:= .i64) (j:=k7) (by kernel_rfl) (by kernel_rfl) hm3 rfl (by kernel_rfl) (by kernel_rfl)) (zL 1 (zK (zS (zL 1 (sB 11 hS (fun hS=>?_) (fun hS=>?_)))))))))))
 ·exact zK (zT (zS (zL 1 (zK (cM (cr (bP (bk (mX hS hQ)))))))))
 ·exact lL hS hQ
def Qs(a1:g_)(iu:Int)(ld:Bool):St:=⟨(up (up (up (up u0 8 (dB ld)) 7 (dI iu)) 6 (.agg ((cH.row 19 a1.iZ)++ []))) 1 (pt 16)),(SC a1)⟩
def rP(a1:g_)(iu:Int)(ld:Bool):Option (Int⊕(Unit⊕Int)):=(bif ld then (B8 a1 iu) else (some (.inr (.inl ()))))
theorem A4(hd:1≤d){a1:g_}{r:Int⊕(Unit⊕Int)}(hQ:FQ (bG (uH a1) (zM a1) r) Q){iu:Int}{ld:Bool}(hS:rP a1 iu ld=some r): ∀st,au [1,6,7,8] [(16,.id 16)] [] st=Qs a1 iu ld→ZX d Q ajV [] st:=by
 intro st he
 refine ay he (aC (sR 8 hS (fun hS=>?_) (fun hS=>?_)))
 ·exact jR (LQ hd hQ hS)
 ·exact zF (ay (J:=DG a1) (by kernel_rfl) (dh (cY (bk (jA hS hQ)))))
def DI(a1:g_)(x:Int):Option (Int⊕(Unit⊕Int)):=(bif (decide (x<19)) then (rP a1 x true) else (rP a1 x false))
theorem Xp(hd:1≤d){a1:g_}{r:Int⊕(Unit⊕Int)}(hQ:FQ (bG (uH a1) (zM a1) r) Q){x:Int}(hS:DI a1 x=some r)(he:uH a1 x st):ZX d Q ajW [] st:=by
 refine ay he (zS (sB 8 hS (fun hS=>?_) (fun hS=>?_)))
 ·exact zK (A4 hd hQ hS _ (by kernel_rfl))
 ·exact jL (A4 hd hQ hS)
def f25(a1:g_):Option (Int):=((b9 (DI a1) 0).bind fun z4=>(Sum.elim (fun z5=>(Qq a1)) (fun z6=>(some z6)) z4))
theorem at2{d:Nat}(hd:1≤d){a1:g_}{r:Int}(hS:f25 a1=some r):bW av aX d 25 [(.agg ((cH.row 19 a1.iZ)++((cH.row 19 a1.rq)++ [])))] []=some ((dI r),[]):=by
 refine cL amD hd (fun Q hQ=>?_) alB
 refine zS (zL 2 (zK (aC (zS (zL 3 (zK (bz (aq hS (fun z4 jf hS=>dN (uH a1) (zM a1) (fun x st r Q h0 hS hQ=>Xp hd hQ hS h0) (x:=0) (z:=z4) (by show au _ _ _ _=_;kernel_rfl) jf ?_)))))))))
 rcases z4 with z5 | z6
 ·replace hS:=(show _=_ from hS)
  simp only [ua] at hS
  intro e bl _ hX
  obtain ⟨rfl,rfl⟩:_∧_:=hX
  exact jK (Xo hd hQ hS)
 ·simp only [ud] at hS
  intro e bl _ hX
  obtain ⟨rfl,hX⟩:_∧_:=hX
  exact cr (bP (bk (eA hS hQ (jv (by kernel_rfl) ((congrArg (fun s=>cP s 0 Wu.res) hX).trans amC)))))
/- farwriter/line.Check -/
def azs(r:Int)(e:PX)(st:St):Prop:=aV c26 0 ((dI r),[]) e st
def f26(a1:ru):Option (Int):=(bif (decide (1024≤(a1.pM.length:Int))) then (some 2) else (some 0))
theorem at3{d:Nat}(hd:1≤d){a1:ru}{r:Int}(hS:f26 a1=some r):bW av aX d 26 [(.agg ((.d (.str a1.pM))::((dB a1.Quote):: [])))] []=some ((dI r),[]):=by
 refine cL azs hd (fun Q hQ=>?_) alC
 refine zS (zL 2 (zK (aC (zS (zL 3 (sB 6 hS (fun hS=>?_) (fun hS=>?_)))))))
 ·exact nL hS hQ
 ·exact nL hS hQ
/- farwriter/client.Check -/
def acj(mM:Int):St:=⟨(up u0 2 (dI mM)),h0⟩
theorem at4{mM:Int}:cP (acj mM) 0 c7.res=some ((dI mM),[]):=by
 kernel_rfl
def aCa(r:Int)(e:PX)(st:St):Prop:=aV c7 0 ((dI r),[]) e st
def amE(a1:bg)(x:(Nat→Int)×Int):St:=⟨(up (up u0 39 (dI x.2)) 38 (.agg ((eI.row 9 x.1)++ []))),h0⟩
def xG(a1:bg)(x:(Nat→Int)×Int)(st:St):Prop:=au [38,39] [] [] st=amE a1 x
def F7(a1:bg):St:=⟨u0,h0⟩
def DJ(a1:bg)(z:Unit⊕Int)(e:PX)(st:St):Prop:=(match z with | .inl z=>e= .exit 0∧st=F7 a1 | .inr z=>e= .ret∧dY c7.fin st=acj z)
def Tv(a1:bg)(fV:Nat→Int)(jy:Int):St:=⟨(up (up u0 39 (dI jy)) 38 (.agg ((eI.row 9 fV)++ []))),h0⟩
def E_(a1:bg)(fV:Nat→Int)(jy:Int):Option (((Nat→Int)×Int)⊕(Unit⊕Int)):=((jG jy 9).bind fun m23=>(bif (!decide ((fV m23)=0)) then (some (.inr (.inr 4))) else (some (.inl (fV,(IntKind.i64.wrap (jy+1)))))))
theorem Qt(hd:7≤d){a1:bg}{r:((Nat→Int)×Int)⊕(Unit⊕Int)}(hQ:FQ (bG (xG a1) (DJ a1) r) Q){fV:Nat→Int}{jy:Int}(hS:E_ a1 fV jy=some r): ∀st,au [38,39] [] [] st=Tv a1 fV jy→ZX d Q awh [] st:=by
 intro st he
 refine ay he (aC (bz (zS (aq hS (fun m23 amF hS=>zO (v:=(dI (fV m23))) (aD:= []) (some 41) (.GH .false 9 1 (tm 38) (tm 39)) (zb eI fV (kk:= .i64) (j:=jy) (by kernel_rfl) (by kernel_rfl) amF rfl (by kernel_rfl) (by kernel_rfl)) (zL 1 (zK (zS (zL 1 (sB 43 hS (fun hS=>?_) (fun hS=>?_)))))))))))
 ·exact zK (zT (zS (zL 1 (zK (cM (cr (bP (bk (mX hS hQ)))))))))
 ·exact lL hS hQ
def Tw(a1:bg)(h_:Nat→Int)(kH:Int)(eX:Bool):St:=⟨(up (up (up u0 40 (dB eX)) 39 (dI kH)) 38 (.agg ((eI.row 9 h_)++ []))),h0⟩
def uI(a1:bg)(h_:Nat→Int)(kH:Int)(eX:Bool):Option (((Nat→Int)×Int)⊕(Unit⊕Int)):=(bif eX then (E_ a1 h_ kH) else (some (.inr (.inl ()))))
theorem DK(hd:7≤d){a1:bg}{r:((Nat→Int)×Int)⊕(Unit⊕Int)}(hQ:FQ (bG (xG a1) (DJ a1) r) Q){h_:Nat→Int}{kH:Int}{eX:Bool}(hS:uI a1 h_ kH eX=some r): ∀st,au [38,39,40] [] [] st=Tw a1 h_ kH eX→ZX d Q awi [] st:=by
 intro st he
 refine ay he (aC (sR 40 hS (fun hS=>?_) (fun hS=>?_)))
 ·exact jR (Qt hd hQ hS)
 ·exact zF (ay (J:=F7 a1) (by kernel_rfl) (dh (cY (bk (jA hS hQ)))))
def Qu(a1:bg)(x:(Nat→Int)×Int):Option (((Nat→Int)×Int)⊕(Unit⊕Int)):=(bif (decide (x.2<9)) then (uI a1 x.1 x.2 true) else (uI a1 x.1 x.2 false))
theorem af1(hd:7≤d){a1:bg}{r:((Nat→Int)×Int)⊕(Unit⊕Int)}(hQ:FQ (bG (xG a1) (DJ a1) r) Q){x:(Nat→Int)×Int}(hS:Qu a1 x=some r)(he:xG a1 x st):ZX d Q awj [] st:=by
 refine ay he (zS (sB 40 hS (fun hS=>?_) (fun hS=>?_)))
 ·exact zK (DK hd hQ hS _ (by kernel_rfl))
 ·exact jL (DK hd hQ hS)
def f7(a1:bg):Option (Int):=((f18 a1.Vars).bind fun z12=>((f19 a1.iF).bind fun dP=>((f20 a1.Part).bind fun dU=>((f21 a1.dX).bind fun fk=>((f22 a1.af).bind fun dy=>((f23 a1.Neg).bind fun fC=>((f24 a1.bL).bind fun fD=>((f25 a1.Keys).bind fun gy=>((f26 a1.gS).bind fun z20=>((b9 (Qu a1) ((fun i=>([dP,dU,fk,dy,fC,fD,z12.2,gy,z20]:List Int).getD i 0),0)).bind fun z24=>(Sum.elim (fun z25=>(some 0)) (fun z26=>(some z26)) z24)))))))))))
theorem amG{d:Nat}(hd:7≤d){a1:bg}{r:Int}(hS:f7 a1=some r):bW av aX d 7 [(k5 a1)] []=some ((dI r),[]):=by
 refine cL aCa hd (fun Q hQ=>?_) atH
 refine zS (zL 2 (zK (zS (zL 2 (aq hS (fun z12 gO hS=>zC 10 (atO (aU hd rfl) gO) (zL 5 (zK (aC (aC (cC (cy 2 (aq hS (fun dP jn hS=>dr (some 15) none (c1 19 14) (bX (atK (aU hd rfl) jn)) (cy 2 (aq hS (fun dU kg hS=>dr (some 18) none (c1 20 17) (bX (ab5 (aU hd rfl) kg)) (cy 2 (aq hS (fun fk kX hS=>dr (some 21) none (c1 21 20) (bX (ab8 (aU hd rfl) kX)) (cy 2 (aq hS (fun dy jm hS=>dr (some 24) none (c1 22 23) (bX (ach (aU hd rfl) jm)) (cy 2 (aq hS (fun fC ke hS=>dr (some 27) none (c1 23 26) (bX (atW (aU hd rfl) ke)) (cy 2 (aq hS (fun fD lJ hS=>dr (some 30) none (c1 24 29) (bX (at0 (aU hd rfl) lJ)) (cy 3 (aq hS (fun gy nM hS=>dr (some 34) none (c1 25 33) (bX (at2 (aU hd rfl) nM)) (cy 2 (aq hS (fun z20 nN hS=>dr (some 37) none (c1 26 36) (bX (at3 (aU hd rfl) nN)) (cy 2 (fL (cj (bz (aq hS (fun z24 pX hS=>dN (xG a1) (DJ a1) (fun x st r Q h0 hS hQ=>af1 hd hQ hS h0) (x:=((fun i=>([dP,dU,fk,dy,fC,fD,z12.2,gy,z20]:List Int).getD i 0),0)) (z:=z24) (by show au _ _ _ _=_;kernel_rfl) pX ?_)))))))))))))))))))))))))))))))))))))))))
 rcases z24 with z25 | z26
 ·replace hS:=(show _=_ from hS)
  simp only [ua] at hS
  intro e bl _ hX
  obtain ⟨rfl,rfl⟩:_∧_:=hX
  exact nK hS hQ
 ·simp only [ud] at hS
  intro e bl _ hX
  obtain ⟨rfl,hX⟩:_∧_:=hX
  exact cr (bP (bk (eA hS hQ (jv (by kernel_rfl) ((congrArg (fun s=>cP s 0 c7.res) hX).trans at4)))))
/- slices.Clone[[]farwriter/api.Cell,farwriter/api.Cell] -/
def JI(p1:List ah):St:=⟨(up u0 2 (.r (.aJ 97 0 0 p1.length))),(up h0 97 ⟨0,some (.own 87 4 (ak.cells p1))⟩)⟩
theorem Tx{p1:List ah}:cP (JI p1) 0 Pg.res=some ((.r (.own 0 87 4 p1.length (ak.cells p1))),[]):=by
 exact iN (ids:= []) (ids':= [97]) (l:= [(.r (.aJ 97 0 0 p1.length))]) (by kernel_rfl) (by kernel_rfl) (gX ak (e:=87) (k:=4) (xs:=p1) (by kernel_rfl) rfl rfl rfl rfl)
def amH(r:List ah)(e:PX)(st:St):Prop:=aV Pg 0 ((.r (.own 0 87 4 r.length (ak.cells r))),[]) e st
def f70(a1:List ah):Option (List ah):=((eN 32 ([]:List ah) a1).bind fun z2=>(some z2))
theorem DL{d:Nat}(hd:1≤d){a1 r:List ah}(hS:f70 a1=some r):bW av aX d 70 [(dE ak a1)] []=some ((.r (.own 0 87 4 r.length (ak.cells r))),[]):=by
 refine IM al5 rfl rfl (Nat.le_trans (Nat.le_of_ble_eq_true rfl) hd) (fun Q hQ=>?_) (fun h0 Q hQ=>?_)
 ·unfold f70 at hS
  show ZR _ Q Wv [] _
  exact zS (zL 1 (zK (aC (zS (zL 2 (zK (zF (fP (cj (zS (zL 2 (aq hS (fun z2 hz2 hS=>zO (v:=(.r (.aJ 48 2 0 z2.length))) (aD:= [(48,⟨2,some (.own 87 4 (ak.cells z2))⟩)]) (some 7) (.app 87 4 32 (tm 5) (tm 6)) (eL ak (b:=48) (g:=1) (n:=([]:List ah).length) (xs:= []) (ys:=a1) ((congrArg (fJ _) (by kernel_rfl:bU _ (.tmp 6)=(.jo false a1.length (ak.cells a1)))).trans rfl) rfl (by kernel_rfl) rfl (by kernel_rfl) rfl hz2) (zL 1 (zK (cM (bk (eA (F:=amH) hS hQ (jv (by kernel_rfl) ((congrArg (fun s=>cP s 0 Pg.res) (by kernel_rfl:dY Pg.fin _=JI z2)).trans Tx))))))))))))))))))))
 ·have hS:(some [])=some r:=by
   have hl:=List.eq_nil_of_length_eq_zero h0
   subst hl
   simpa [f70,eN] using hS
  show ZR _ Q Wv [] _
  exact zS (zL 1 (zK (aC (zS (zL 2 (zK (zT (zS (zL 1 (zK (cM (bP (bk (eA (F:=amH) hS hQ (jv (by kernel_rfl) ((congrArg (fun s=>cP s 0 Pg.res) (by kernel_rfl:dY Pg.fin _=JI [])).trans Tx))))))))))))))))
/- farwriter/grid.Clone -/
def amI(p1 p2:Int)(p3:List ah):St:=⟨(up u0 2 (pt 24)),(up (up h0 48 ⟨0,some (.own 87 4 (ak.cells p3))⟩) 24 ⟨0,some (.box ((dI p1)::((dI p2)::((.r (.aJ 48 0 0 p3.length)):: []))))⟩)⟩
theorem amJ{p1 p2:Int}{p3:List ah}:cP (amI p1 p2 p3) 0 c69.res=some ((.agg ((dI p1)::((dI p2)::((.r (.own 0 87 4 p3.length (ak.cells p3))):: [])))),[]):=by
 exact iN (ids:= []) (ids':= [48]) (l:= [(.agg ((dI p1)::((dI p2)::((.r (.aJ 48 0 0 p3.length)):: []))))]) (by kernel_rfl) (by kernel_rfl) (BK (aN rfl (aN rfl (aN (gX ak (e:=87) (k:=4) (xs:=p3) (by kernel_rfl) rfl rfl rfl rfl) mW))))
def azt(r:Int×Int×(List ah))(e:PX)(st:St):Prop:=aV c69 0 ((.agg ((dI r.1)::((dI r.2.1)::((.r (.own 0 87 4 r.2.2.length (ak.cells r.2.2))):: [])))),[]) e st
def f69(a1:bQ):Option (Int×Int×(List ah)):=((f70 a1.Cells).bind fun z2=>(some (a1.bR,a1.bV,z2)))
theorem Qw{d:Nat}(hd:2≤d){a1:bQ}{r:Int×Int×(List ah)}(hS:f69 a1=some r):bW av aX d 69 [(ZA a1)] []=some ((.agg ((dI r.1)::((dI r.2.1)::((.r (.own 0 87 4 r.2.2.length (ak.cells r.2.2))):: [])))),[]):=by
 refine cL azt hd (fun Q hQ=>?_) al4
 exact zS (zL 2 (zK (zS (zL 2 (aq hS (fun z2 hz2 hS=>zC 5 (DL (aU hd rfl) hz2) (zL 2 (zK (zS (zL 2 (zK (cM (bk (eA hS hQ (fR amJ)))))))))))))))
/- farwriter/screen.Clone -/
def amK(iu:aA):St:=⟨(up u0 2 (pt 24)),(xx h0 iu 24 72 96 32)⟩
theorem amL{iu:aA}:cP (amK iu) 0 c38.res=some ((.agg (eP iu)),[]):=by
 exact iN (ids:= []) (ids':= [72,96,32]) (l:= [(.agg (bS iu 72 0 96 0 32 0))]) (by kernel_rfl) (by kernel_rfl) (BK (aN rfl (aN rfl (aN (gX ak (e:=87) (k:=4) (xs:=iu.aG.Cells) (by kernel_rfl) rfl rfl rfl rfl) (aN rfl (aN rfl (aN rfl (aN rfl (aN rfl (aN rfl (aN rfl (aN rfl (aN rfl (O9 (O_ (cE .u64)) (aN rfl (aN rfl (aN rfl (aN rfl (aN rfl (aN rfl (aN rfl (aN rfl (aN rfl (aN rfl (aN rfl (aN rfl (aN rfl (aN rfl (aN (gX ak (e:=87) (k:=4) (xs:=iu.aT.Cells) (by kernel_rfl) rfl rfl rfl rfl) (aN rfl (aN (gX b_ (e:=111) (k:=1) (xs:=iu.bn) (by kernel_rfl) rfl rfl rfl rfl) mW)))))))))))))))))))))))))))))))
def azu(r:aA)(e:PX)(st:St):Prop:=aV c38 0 ((.agg (eP r)),[]) e st
def af2(a1:aA)(x:aA×(List bY)×Int):St:=⟨(up (up (up (up (up (up u0 17 (dI x.2.2)) 16 (dI (a1.bn.length:Int))) 15 (fU a1)) 3 (.r (.aJ 32 0 0 x.2.1.length))) 2 (pt 24)) 1 (pt 16)),(up (up (up (up (up h0 32 ⟨0,some (.own 111 1 (b_.cells x.2.1))⟩) 24 mL) 96 ⟨0,some (aI x.1)⟩) 72 ⟨0,some (aH x.1)⟩) 16 (j_ x.1))⟩
def uJ(a1:aA)(x:aA×(List bY)×Int)(st:St):Prop:=au [1,2,3,15,16,17] [(16,.id 16),(72,.id 72),(96,.id 96),(24,.id 24),(32,.id 32)] [.cell 24 2 0 0 1,.cell 24 30 0 0 1,.cell 24 32 0 0 1] st=af2 a1 x
def DM(a1 dZ:aA)(gj:List bY):St:=⟨(up (up (up u0 3 (.r (.aJ 32 0 0 gj.length))) 2 (pt 24)) 1 (pt 16)),(up (up (up (up (up h0 32 ⟨0,some (.own 111 1 (b_.cells gj))⟩) 24 mL) 96 ⟨0,some (aI dZ)⟩) 72 ⟨0,some (aH dZ)⟩) 16 (j_ dZ))⟩
def zN(a1:aA)(z:(aA×(List bY)))(e:PX)(st:St):Prop:=e= .exit 0∧st=DM a1 z.1 z.2
def Qx(a1 gP:aA)(iC:List bY)(iD:Int):St:=⟨(up (up (up (up (up (up u0 17 (dI iD)) 16 (dI (a1.bn.length:Int))) 15 (fU a1)) 3 (.r (.aJ 32 0 0 iC.length))) 2 (pt 24)) 1 (pt 16)),(up (up (up (up (up h0 32 ⟨0,some (.own 111 1 (b_.cells iC))⟩) 24 mL) 96 ⟨0,some (aI gP)⟩) 72 ⟨0,some (aH gP)⟩) 16 (j_ gP))⟩
def B9(a1 gP:aA)(iC:List bY)(iD:Int):Option ((aA×(List bY)×Int)⊕((aA×(List bY)))):=((idx a1.bn iD).bind fun z23=>((f70 z23.Cells).bind fun z24=>((eN 24 iC ([(bY.mk z24)]:List bY)).bind fun z25=>(some (.inl (gP,z25,(IntKind.i64.wrap (iD+1))))))))
theorem LR(hd:3≤d){a1:aA}{r:(aA×(List bY)×Int)⊕((aA×(List bY)))}(hQ:FQ (bG (uJ a1) (zN a1) r) Q){gP:aA}{iC:List bY}{iD:Int}(hS:B9 a1 gP iC iD=some r): ∀st,au [1,2,3,15,16,17] [(16,.id 16),(72,.id 72),(96,.id 96),(24,.id 24),(32,.id 32)] [] st=Qx a1 gP iC iD→ZX d Q ajZ [] st:=by
 intro st he
 exact ay he (aC (bz (zS (aq hS (fun z23 xC hS=>zO (v:=(.cD (b_.enc z23++(b_.cells (a1.bn.drop ((iD:Int).toNat+1)))))) (aD:= []) (some 19) (.jz 111 1 (tm 15) (tm 17)) (fQ b_ (kk:= .i64) (xs:=a1.bn) (j:=iD) (by kernel_rfl) (by kernel_rfl) xC rfl (by intro h;cases h)) (zL 3 (zK (a_ (zL 3 (aq hS (fun z24 pX hS=>zC 24 (DL (aU hd rfl) pX) (zL 1 (zO (v:=(.r (.aJ 216 1 0 (([(bY.mk z24)]:List bY).length)))) (aD:= [(200,⟨2,none⟩),(216,⟨1,some (.own 111 1 (b_.cells ([(bY.mk z24)])))⟩)]) (some 26) (.wU 111 1 1 [(1,(.slice .none 0 0))] [(0,(1,(tm 25)))]) ((by kernel_rfl:az _ _ 26 (bU _) (.wU 111 1 1 [(1,(.slice .none 0 0))] [(0,(1,(.tmp 25)))])=some ((.r (.aJ 216 1 0 (([(bY.mk z24)]:List bY).length))),[(200,⟨2,none⟩),(216,⟨1,some (.own 111 1 [.sl z24.length (((ak.cells z24).drop (0*ak.k)).take (z24.length*ak.k))])⟩)])).trans (by simp only [cT.O8];rfl)) (aq hS (fun z25 rQ hS=>zO (v:=(.r (.aJ 32 1 0 z25.length))) (aD:= [(32,⟨1,some (.own 111 1 (b_.cells z25))⟩)]) (some 27) (.app 111 1 24 (tm 21) (tm 26)) (eL b_ (b:=32) (g:=0) (n:=iC.length) (xs:=iC) (ys:= [(bY.mk z24)]) ((congrArg (fJ _) (by kernel_rfl:bU _ (.tmp 26)=(.r (.aJ 216 1 0 (([(bY.mk z24)]:List bY).length))))).trans (cX b_ (e:=111) (k:=1) (xs:= [(bY.mk z24)]) (by kernel_rfl) rfl rfl)) rfl (by kernel_rfl) rfl (by kernel_rfl) rfl rQ) (lL hS hQ))))))))))))))))
def Qy(a1 mO:aA)(gu:List bY)(iJ:Int)(fe:Bool):St:=⟨(up (up (up (up (up (up (up u0 18 (dB fe)) 17 (dI iJ)) 16 (dI (a1.bn.length:Int))) 15 (fU a1)) 3 (.r (.aJ 32 0 0 gu.length))) 2 (pt 24)) 1 (pt 16)),(up (up (up (up (up h0 32 ⟨0,some (.own 111 1 (b_.cells gu))⟩) 24 mL) 96 ⟨0,some (aI mO)⟩) 72 ⟨0,some (aH mO)⟩) 16 (j_ mO))⟩
def rR(a1 mO:aA)(gu:List bY)(iJ:Int)(fe:Bool):Option ((aA×(List bY)×Int)⊕((aA×(List bY)))):=(bif fe then (B9 a1 mO gu iJ) else (some (.inr (mO,gu))))
theorem A5(hd:3≤d){a1:aA}{r:(aA×(List bY)×Int)⊕((aA×(List bY)))}(hQ:FQ (bG (uJ a1) (zN a1) r) Q){mO:aA}{gu:List bY}{iJ:Int}{fe:Bool}(hS:rR a1 mO gu iJ fe=some r): ∀st,au [1,2,3,15,16,17,18] [(16,.id 16),(72,.id 72),(96,.id 96),(24,.id 24),(32,.id 32)] [] st=Qy a1 mO gu iJ fe→ZX d Q aj0 [] st:=by
 intro st he
 refine ay he (aC (sR 18 hS (fun hS=>?_) (fun hS=>?_)))
 ·exact jR (LR hd hQ hS)
 ·exact zF (ay (J:=DM a1 mO gu) (by kernel_rfl) (dh (cY (bk (jA hS hQ)))))
def zP(a1:aA)(x:aA×(List bY)×Int):Option ((aA×(List bY)×Int)⊕((aA×(List bY)))):=(bif (decide (x.2.2<(a1.bn.length:Int))) then (rR a1 x.1 x.2.1 x.2.2 true) else (rR a1 x.1 x.2.1 x.2.2 false))
theorem Xq(hd:3≤d){a1:aA}{r:(aA×(List bY)×Int)⊕((aA×(List bY)))}(hQ:FQ (bG (uJ a1) (zN a1) r) Q){x:aA×(List bY)×Int}(hS:zP a1 x=some r)(he:uJ a1 x st):ZX d Q aj1 [] st:=by
 refine ay he (zS (sB 18 hS (fun hS=>?_) (fun hS=>?_)))
 ·exact zK (A5 hd hQ hS _ (by kernel_rfl))
 ·exact jL (A5 hd hQ hS)
def f38(a1:aA):Option (aA):=((f69 a1.aG).bind fun z12=>((f69 a1.aT).bind fun dP=>((b9 (zP a1) ({a1 with aG:=(bQ.mk z12.1 z12.2.1 z12.2.2),aT:=(bQ.mk dP.1 dP.2.1 dP.2.2)},[],0)).bind fun z26=>(some (aA.mk z26.1.aG z26.1.Row z26.1.cQ z26.1.eV z26.1.jx z26.1.cZ z26.1.cz z26.1.dO z26.1.gN z26.1.bF z26.1.cN z26.1.aS z26.1.aT z26.1.gZ z26.2)))))
theorem Hs{d:Nat}(hd:3≤d){a1 r:aA}(hS:f38 a1=some r):bW av aX d 38 [(.agg (bM a1))] []=some ((.agg (eP r)),[]):=by
 refine cL azu hd (fun Q hQ=>?_) alH
 refine zS (zL 2 (zK (aC (cC (cy 2 (aq hS (fun z12 gO hS=>dr (some 8) none (c1 69 7) (bX (Qw (aU hd rfl) gO)) (cy 2 (aq hS (fun dP jn hS=>dr (some 11) none (c1 69 10) (bX (Qw (aU hd rfl) jn)) (cy 4 (fL (cj (zS (zL 1 (zK (aC (zS (zL 4 (zK (bz (aq hS (fun z26 rH hS=>dN (uJ a1) (zN a1) (fun x st r Q h0 hS hQ=>Xq hd hQ hS h0) (x:=({a1 with aG:=(bQ.mk z12.1 z12.2.1 z12.2.2),aT:=(bQ.mk dP.1 dP.2.1 dP.2.2)},[],0)) (z:=z26) (by show au _ _ _ _=_;kernel_rfl) rH ?_)))))))))))))))))))))))
 intro e bl _ hX
 obtain ⟨rfl,rfl⟩:_∧_:=hX
 exact j9 (cj (zS (zL 3 (zK (zS (zL 2 (zK (cM (bk (eA hS hQ (fR amL)))))))))))
/- slices.Clone[[]string,string] -/
def JJ(p1:List S8):St:=⟨(up u0 2 (.r (.aJ 97 0 0 p1.length))),(up h0 97 ⟨0,some (.own 9 1 (dM.cells p1))⟩)⟩
theorem Ty{p1:List S8}:cP (JJ p1) 0 Ph.res=some ((.r (.own 0 9 1 p1.length (dM.cells p1))),[]):=by
 exact iN (ids:= []) (ids':= [97]) (l:= [(.r (.aJ 97 0 0 p1.length))]) (by kernel_rfl) (by kernel_rfl) (gX dM (e:=9) (k:=1) (xs:=p1) (by kernel_rfl) rfl rfl rfl rfl)
def amM(r:List S8)(e:PX)(st:St):Prop:=aV Ph 0 ((.r (.own 0 9 1 r.length (dM.cells r))),[]) e st
def f39(a1:List S8):Option (List S8):=((eN 16 ([]:List S8) a1).bind fun z2=>(some z2))
theorem at5{d:Nat}(hd:1≤d){a1 r:List S8}(hS:f39 a1=some r):bW av aX d 39 [(dE dM a1)] []=some ((.r (.own 0 9 1 r.length (dM.cells r))),[]):=by
 refine IM alI rfl rfl (Nat.le_trans (Nat.le_of_ble_eq_true rfl) hd) (fun Q hQ=>?_) (fun h0 Q hQ=>?_)
 ·unfold f39 at hS
  show ZR _ Q Ww [] _
  exact zS (zL 1 (zK (aC (zS (zL 2 (zK (zF (fP (cj (zS (zL 2 (aq hS (fun z2 hz2 hS=>zO (v:=(.r (.aJ 48 2 0 z2.length))) (aD:= [(48,⟨2,some (.own 9 1 (dM.cells z2))⟩)]) (some 7) (.app 9 1 16 (tm 5) (tm 6)) (eL dM (b:=48) (g:=1) (n:=([]:List S8).length) (xs:= []) (ys:=a1) ((congrArg (fJ _) (by kernel_rfl:bU _ (.tmp 6)=(.jo false a1.length (dM.cells a1)))).trans rfl) rfl (by kernel_rfl) rfl (by kernel_rfl) rfl hz2) (zL 1 (zK (cM (bk (eA (F:=amM) hS hQ (jv (by kernel_rfl) ((congrArg (fun s=>cP s 0 Ph.res) (by kernel_rfl:dY Ph.fin _=JJ z2)).trans Ty))))))))))))))))))))
 ·have hS:(some [])=some r:=by
   have hl:=List.eq_nil_of_length_eq_zero h0
   subst hl
   simpa [f39,eN] using hS
  show ZR _ Q Ww [] _
  exact zS (zL 1 (zK (aC (zS (zL 2 (zK (zT (zS (zL 1 (zK (cM (bP (bk (eA (F:=amM) hS hQ (jv (by kernel_rfl) ((congrArg (fun s=>cP s 0 Ph.res) (by kernel_rfl:dY Ph.fin _=JJ [])).trans Ty))))))))))))))))
/- slices.Clone[[]farwriter/api.Var,farwriter/api.Var] -/
def JK(p1:List dD):St:=⟨(up u0 2 (.r (.aJ 97 0 0 p1.length))),(up h0 97 ⟨0,some (.own 118 4 (cW.cells p1))⟩)⟩
theorem Tz{p1:List dD}:cP (JK p1) 0 Pj.res=some ((.r (.own 0 118 4 p1.length (cW.cells p1))),[]):=by
 exact iN (ids:= []) (ids':= [97]) (l:= [(.r (.aJ 97 0 0 p1.length))]) (by kernel_rfl) (by kernel_rfl) (gX cW (e:=118) (k:=4) (xs:=p1) (by kernel_rfl) rfl rfl rfl rfl)
def amN(r:List dD)(e:PX)(st:St):Prop:=aV Pj 0 ((.r (.own 0 118 4 r.length (cW.cells r))),[]) e st
def f40(a1:List dD):Option (List dD):=((eN 40 ([]:List dD) a1).bind fun z2=>(some z2))
theorem at6{d:Nat}(hd:1≤d){a1 r:List dD}(hS:f40 a1=some r):bW av aX d 40 [(dE cW a1)] []=some ((.r (.own 0 118 4 r.length (cW.cells r))),[]):=by
 refine IM alJ rfl rfl (Nat.le_trans (Nat.le_of_ble_eq_true rfl) hd) (fun Q hQ=>?_) (fun h0 Q hQ=>?_)
 ·unfold f40 at hS
  show ZR _ Q Wx [] _
  exact zS (zL 1 (zK (aC (zS (zL 2 (zK (zF (fP (cj (zS (zL 2 (aq hS (fun z2 hz2 hS=>zO (v:=(.r (.aJ 48 2 0 z2.length))) (aD:= [(48,⟨2,some (.own 118 4 (cW.cells z2))⟩)]) (some 7) (.app 118 4 40 (tm 5) (tm 6)) (eL cW (b:=48) (g:=1) (n:=([]:List dD).length) (xs:= []) (ys:=a1) ((congrArg (fJ _) (by kernel_rfl:bU _ (.tmp 6)=(.jo false a1.length (cW.cells a1)))).trans rfl) rfl (by kernel_rfl) rfl (by kernel_rfl) rfl hz2) (zL 1 (zK (cM (bk (eA (F:=amN) hS hQ (jv (by kernel_rfl) ((congrArg (fun s=>cP s 0 Pj.res) (by kernel_rfl:dY Pj.fin _=JK z2)).trans Tz))))))))))))))))))))
 ·have hS:(some [])=some r:=by
   have hl:=List.eq_nil_of_length_eq_zero h0
   subst hl
   simpa [f40,eN] using hS
  show ZR _ Q Wx [] _
  exact zS (zL 1 (zK (aC (zS (zL 2 (zK (zT (zS (zL 1 (zK (cM (bP (bk (eA (F:=amN) hS hQ (jv (by kernel_rfl) ((congrArg (fun s=>cP s 0 Pj.res) (by kernel_rfl:dY Pj.fin _=JK [])).trans Tz))))))))))))))))
end
end Go.Proofs.YtimbfadnabfabaaGreatDoor.Pm
