/- Typed functions, and that the codes are these. Printed by dec.py. -/
import Derived.Test.YtimbfadnabfabaaGreatDoorDMoJ
namespace Go.Proofs.YtimbfadnabfabaaGreatDoor.Pm
noncomputable section
set_option maxRecDepth 1000000
set_option maxHeartbeats 20000000
set_option linter.unusedVariables false
set_option linter.unusedSimpArgs false
variable {d : Nat} {Q : PQ} {st : St}
/- (*farwriter/screen.terminal).escape -/
def acG(r:ag)(e:PX)(st:St):Prop:=aV aby 4 ((.bE []),[(eo r),(aH r.af),(aI r.af),(aM r.af)]) e st
def Yd(a1:Int)(a2:ag)(gq:Bool):St:=⟨(up (up (up (up (up (up (up u0 1000003 .un) 1000002 .un) 1000001 .un) 47 (dB gq)) 4 (dI a1)) 1 (dI a1)) 0 (pt 0)),(kG a2)⟩
def sF(a1:Int)(a2:ag)(gq:Bool):Option (ag):=(bif gq then (bif (decide (a1=61)) then ((f223 32 true a2).bind fun pP=>((bO (decide (pP.af.bn.length=a2.af.bn.length))).bind fun Th=>((bO (decide (pP.af.aT.Cells.length=a2.af.aT.Cells.length))).bind fun z44=>((bO (decide (pP.af.aG.Cells.length=a2.af.aG.Cells.length))).bind fun P9=>(some pP))))) else ((f223 32 false a2).bind fun z46=>((bO (decide (z46.af.bn.length=a2.af.bn.length))).bind fun Dv=>((bO (decide (z46.af.aT.Cells.length=a2.af.aT.Cells.length))).bind fun xD=>((bO (decide (z46.af.aG.Cells.length=a2.af.aG.Cells.length))).bind fun z49=>(some z46)))))) else (bif (decide (a1=99)) then ((f224 a2).bind fun qh=>(some (ag.mk ({qh.1.af with bn:= []}) qh.1.sent))) else (some a2)))
theorem yI(hd:9≤d){a1:Int}{a2 r:ag}(hQ:FQ (acG r) Q){gq:Bool}(hS:sF a1 a2 gq=some r): ∀st,au [0,1,4,47,1000001,1000002,1000003] [(0,.id 0),(1,.id 1),(2,.id 2),(3,.id 3)] [] st=Yd a1 a2 gq→ZX d Q abx [.blk 0] st:=by
 intro st he
 refine ay he (sR 47 hS (fun hS=>?_) (fun hS=>?_))
 ·refine zT (a_ (zL 2 (sB 52 hS (fun hS=>?_) (fun hS=>?_))))
  ·exact l6 53 (fun _ h=>Ko (aU hd rfl) h) hS (fun pP NL hS=>nL hS hQ)
  ·exact l6 53 (fun _ h=>Ko (aU hd rfl) h) hS (fun z46 NN hS=>nL hS hQ)
 ·refine zF (zS (sB 55 hS (fun hS=>?_) (fun hS=>?_)))
  ·exact zL 1 (zK (zT (a_ (zL 1 (aq hS (fun qh Ns hS=>fS 57 [0,1,2,3] (anJ (aU hd rfl) Ns) (nL hS hQ)))))))
  ·exact nL hS hQ
def f189(a1:Int)(a2:ag):Option (ag):=(bif (decide (a1=68)) then ((f213 a2).bind fun z26=>(some z26)) else (bif (decide (a1=69)) then ((f212 0 a2).bind fun tL=>((bO (decide (tL.af.bn.length=a2.af.bn.length))).bind fun z28=>((bO (decide (tL.af.aT.Cells.length=a2.af.aT.Cells.length))).bind fun ox=>((bO (decide (tL.af.aG.Cells.length=a2.af.aG.Cells.length))).bind fun JG=>((f213 tL).bind fun z31=>(some z31)))))) else (bif (decide (a1=77)) then ((f219 a2).bind fun JH=>(some JH)) else (bif (decide (a1=72)) then ((f220 a2.af.gN a2.af.cQ true).bind fun z33=>(some (ag.mk ({a2.af with gN:=z33.1}) a2.sent))) else (bif (decide (a1=55)) then ((f221 a2).bind fun Qe=>((bO (decide (Qe.af.bn.length=a2.af.bn.length))).bind fun JF=>((bO (decide (Qe.af.aT.Cells.length=a2.af.aT.Cells.length))).bind fun z36=>((bO (decide (Qe.af.aG.Cells.length=a2.af.aG.Cells.length))).bind fun z37=>(some Qe))))) else (bif (decide (a1=56)) then ((f222 a2).bind fun L8=>((bO (decide (L8.af.bn.length=a2.af.bn.length))).bind fun QN=>((bO (decide (L8.af.aT.Cells.length=a2.af.aT.Cells.length))).bind fun z40=>((bO (decide (L8.af.aG.Cells.length=a2.af.aG.Cells.length))).bind fun z41=>(some L8))))) else (bif (decide (a1=61)) then (sF a1 a2 true) else (bif (decide (a1=62)) then (sF a1 a2 true) else (sF a1 a2 false)))))))))
theorem anK{d:Nat}(hd:9≤d){a1:Int}{a2 r:ag}(hS:f189 a1 a2=some r):bW av aX d 189 [(pt 0),(dI a1)] [(eo a2),(aH a2.af),(aI a2.af),(aM a2.af)]=some ((.bE []),[(eo r),(aH r.af),(aI r.af),(aM r.af)]):=by
 refine cL acG hd (fun Q hQ=>?_) aey
 refine zS (zL 1 (zK (bz (zS (sB 6 hS (fun hS=>?_) (fun hS=>?_))))))
 ·exact zL 1 (zK (zT (a_ (zL 1 (aq hS (fun z26 rH hS=>fS 8 [0,1,2,3] (yo (aU hd rfl) rH) (nL hS hQ)))))))
 ·refine zL 1 (zK (zF (zS (sB 10 hS (fun hS=>?_) (fun hS=>?_)))))
  ·exact zL 1 (zK (zT (zS (zL 1 (l6 12 (fun _ h=>gQ (aU hd rfl) h) hS (fun tL acH hS=>zK (a_ (zL 1 (aq hS (fun z31 acp hS=>fS 14 [0,1,2,3] (yo (aU hd rfl) acp) (nL hS hQ)))))))))))
  ·refine zL 1 (zK (zF (zS (sB 16 hS (fun hS=>?_) (fun hS=>?_)))))
   ·exact zL 1 (zK (zT (a_ (zL 1 (aq hS (fun JH am1 hS=>fS 18 [0,1,2,3] (anB (aU hd rfl) am1) (nL hS hQ)))))))
   ·refine zL 1 (zK (zF (zS (sB 20 hS (fun hS=>?_) (fun hS=>?_)))))
    ·exact zL 1 (zK (zT (cC (cy 11 (aq hS (fun z33 aCC hS=>dr (some 33) none (.call 220 [(tm 27),(tm 32),(.const (.bool .true))]) (bX (anE (aU hd rfl) aCC)) (cy 7 (fL (nK hS hQ)))))))))
    ·refine zL 1 (zK (zF (zS (sB 40 hS (fun hS=>?_) (fun hS=>?_)))))
     ·exact zL 1 (zK (zT (a_ (zL 1 (l6 42 (fun _ h=>T8 (aU hd rfl) h) hS (fun Qe awD hS=>nL hS hQ))))))
     ·refine zL 1 (zK (zF (zS (sB 44 hS (fun hS=>?_) (fun hS=>?_)))))
      ·exact zL 1 (zK (zT (a_ (zL 1 (l6 46 (fun _ h=>T9 (aU hd rfl) h) hS (fun L8 acy hS=>nL hS hQ))))))
      ·refine zL 1 (zK (zF (aC (zS (sB 48 hS (fun hS=>?_) (fun hS=>?_))))))
       ·exact jL (yI hd hQ hS)
       ·refine zL 1 (zK (zF (a_ (sB 49 hS (fun hS=>?_) (fun hS=>?_)))))
        ·exact zL 1 (zK (yI hd hQ hS _ (by kernel_rfl)))
        ·exact jL (yI hd hQ hS)
/- farwriter/args.Get -/
def auO(r:Int)(e:PX)(st:St):Prop:=aV abz 0 ((dI r),[]) e st
def f226(a1:List Int)(a2 a3:Int):Option (Int):=(bif (decide (a2<0)) then (some a3) else (bif (decide ((a1.length:Int)≤a2)) then (some a3) else ((idx a1 a2).bind fun z3=>(bif (decide (z3=(-1))) then (some a3) else ((idx a1 a2).bind fun z4=>(some z4))))))
theorem Uc{d:Nat}(hd:1≤d){a1:List Int}{a2 a3 r:Int}(hS:f226 a1 a2 a3=some r):bW av aX d 226 [(dL a1),(dI a2),(dI a3)] []=some ((dI r),[]):=by
 refine cL auO hd (fun Q hQ=>?_) aeU
 refine zS (zL 1 (zK (aC (zS (zL 1 (sB 8 hS (fun hS=>?_) (fun hS=>?_)))))))
 ·exact nL hS hQ
 ·refine zL 4 (sB 13 hS (fun hS=>?_) (fun hS=>?_))
  ·exact nL hS hQ
  ·refine zL 4 (aq hS (fun z3 hz3 hS=>zG (v:=(.cD (eI.enc z3++(eI.cells (a1.drop ((a2:Int).toNat+1)))))) (aD:= []) (some 18) 15 false (.jz 3 1 (tm 16) (tm 17)) (fQ eI (kk:= .i64) (xs:=a1) (j:=a2) (by kernel_rfl) (by kernel_rfl) hz3 rfl (by intro h;cases h)) (zL 1 (sB 20 hS (fun hS=>?_) (fun hS=>?_)))))
   ·exact nL hS hQ
   ·exact zL 1 (zK (zF (fP (cj (zS (zL 2 (aq hS (fun z4 jf hS=>zO (v:=(.cD (eI.enc z4++(eI.cells (a1.drop ((a2:Int).toNat+1)))))) (aD:= []) (some 25) (.jz 3 1 (tm 23) (tm 24)) (fQ eI (kk:= .i64) (xs:=a1) (j:=a2) (by kernel_rfl) (by kernel_rfl) jf rfl (by intro h;cases h)) (nL hS hQ)))))))))
/- farwriter/screen.positive -/
def auP(r:Int)(e:PX)(st:St):Prop:=aV abA 0 ((dI r),[]) e st
def f225(a1:List Int)(a2:Int):Option (Int):=((f226 a1 a2 1).bind fun z2=>(some (if 1>z2 then 1 else z2)))
theorem Ud{d:Nat}(hd:2≤d){a1:List Int}{a2 r:Int}(hS:f225 a1 a2=some r):bW av aX d 225 [(dL a1),(dI a2)] []=some ((dI r),[]):=by
 refine cL auP hd (fun Q hQ=>?_) aeT
 exact zS (zL 1 (zK (zS (zL 2 (aq hS (fun z2 hz2 hS=>zC 7 (Uc (aU hd rfl) hz2) (nL hS hQ)))))))
/- (*farwriter/screen.terminal).up -/
def Ed(r:ag)(e:PX)(st:St):Prop:=aV abD 4 ((.bE []),[(eo r),(aH r.af),(aI r.af),(aM r.af),.box []]) e st
def Ye(a1:Int)(a2:ag)(ld k7:Int):St:=⟨(up (up (up (up u0 5 (dI k7)) 4 (dI ld)) 1 (dI a1)) 0 (pt 0)),(up (Zy a2.af) 0 ⟨0,some (eo a2)⟩)⟩
def Ee(a1:Int)(a2:ag)(ld k7:Int):Option (ag):=((f237 (IntKind.i64.wrap (a2.af.Row-a1)) ld k7).bind fun z2=>(some (ag.mk ({a2.af with Row:=z2,eV:=false}) a2.sent)))
theorem Gi(hd:2≤d){a1:Int}{a2 r:ag}(hQ:FQ (Ed r) Q){ld k7:Int}(hS:Ee a1 a2 ld k7=some r): ∀st,au [0,1,4,5] [(0,.id 0),(1,.id 1),(2,.id 2),(3,.id 3)] [] st=Ye a1 a2 ld k7→ZX d Q Pp [] st:=by
 intro st he
 exact ay he (zS (zL 10 (aq hS (fun z2 hz2 hS=>zC 64 (DZ (aU hd rfl) hz2) (nL hS hQ)))))
def Yf(a1:Int)(a2:ag)(B2:Int):St:=⟨(up (up (up (up u0 5 (dI (IntKind.i64.wrap (a2.af.aG.bV-1)))) 4 (dI B2)) 1 (dI a1)) 0 (pt 0)),(up (Zy a2.af) 0 ⟨0,some (eo a2)⟩)⟩
def Ef(a1:Int)(a2:ag)(B2:Int):Option (ag):=(Ee a1 a2 B2 (IntKind.i64.wrap (a2.af.aG.bV-1)))
theorem Gj(hd:2≤d){a1:Int}{a2 r:ag}(hQ:FQ (Ed r) Q){B2:Int}(hS:Ef a1 a2 B2=some r): ∀st,au [0,1,4,5] [(0,.id 0),(1,.id 1),(2,.id 2),(3,.id 3)] [] st=Yf a1 a2 B2→ZX d Q abC [.seq Pp] st:=by
 intro st he
 exact ay he (jR (Gi hd hQ hS))
def Yg(a1:Int)(a2:ag)(jJ:Int):St:=⟨(up (up (up (up u0 5 (dI (IntKind.i64.wrap (a2.af.aG.bV-1)))) 4 (dI jJ)) 1 (dI a1)) 0 (pt 0)),(up (Zy a2.af) 0 ⟨0,some (eo a2)⟩)⟩
def Eg(a1:Int)(a2:ag)(jJ:Int):Option (ag):=(bif (decide (a1<0)) then (bif (decide (a2.af.Row<a2.af.cZ)) then (Ee a1 a2 jJ (IntKind.i64.wrap (a2.af.cZ-1))) else (Ef a1 a2 jJ)) else (Ef a1 a2 jJ))
theorem Gk(hd:2≤d){a1:Int}{a2 r:ag}(hQ:FQ (Ed r) Q){jJ:Int}(hS:Eg a1 a2 jJ=some r): ∀st,au [0,1,4,5] [(0,.id 0),(1,.id 1),(2,.id 2),(3,.id 3)] [] st=Yg a1 a2 jJ→ZX d Q Pq [] st:=by
 intro st he
 refine ay he (aC (aC (cC (cy 1 (Ll 34 none (.sQ .lss (tm 33) (ki 0)) hS (fun hS=>?_) (fun hS=>?_))))))
 ·refine cy 11 (Ll 46 (some (35,true)) (.sQ .lss (tm 40) (tm 45)) hS (fun hS=>?_) (fun hS=>?_))
  ·exact cy 1 (fL (cj (zT (a_ (zL 7 (zK (Gi hd hQ hS _ (by kernel_rfl))))))))
  ·exact cy 1 (fL (cj (zF (Gj hd hQ hS _ (by kernel_rfl)))))
 ·exact cy 13 (fL (jK (Gj hd hQ hS)))
def Yh(a1:Int)(a2:ag):St:=⟨(up (up (up (up u0 5 (dI (IntKind.i64.wrap (a2.af.aG.bV-1)))) 4 (dI 0)) 1 (dI a1)) 0 (pt 0)),(up (Zy a2.af) 0 ⟨0,some (eo a2)⟩)⟩
def Eh(a1:Int)(a2:ag):Option (ag):=(Eg a1 a2 0)
theorem Gl(hd:2≤d){a1:Int}{a2 r:ag}(hQ:FQ (Ed r) Q)(hS:Eh a1 a2=some r): ∀st,au [0,1,4,5] [(0,.id 0),(1,.id 1),(2,.id 2),(3,.id 3)] [] st=Yh a1 a2→ZX d Q abB [.seq Pq] st:=by
 intro st he
 exact ay he (jR (Gk hd hQ hS))
def f243(a1:Int)(a2:ag):Option (ag):=(bif (decide (0<a1)) then (bif (decide (a2.af.jx≤a2.af.Row)) then (Eg a1 a2 a2.af.jx) else (Eh a1 a2)) else (Eh a1 a2))
theorem Ei{d:Nat}(hd:2≤d){a1:Int}{a2 r:ag}(hS:f243 a1 a2=some r):bW av aX d 243 [(pt 0),(dI a1)] [(eo a2),(aH a2.af),(aI a2.af),(aM a2.af)]=some ((.bE []),[(eo r),(aH r.af),(aI r.af),(aM r.af),.box []]):=by
 refine cL Ed hd (fun Q hQ=>?_) ae6
 refine aC (cC (cy 9 (fL (cj (aC (aC (cC (cy 1 (Ll 14 none (.sQ .gtr (tm 13) (ki 0)) hS (fun hS=>?_) (fun hS=>?_))))))))))
 ·refine cy 11 (Ll 26 (some (15,true)) (.sQ .geq (tm 20) (tm 25)) hS (fun hS=>?_) (fun hS=>?_))
  ·exact cy 1 (fL (cj (zT (a_ (zL 6 (zK (Gk hd hQ hS _ (by kernel_rfl))))))))
  ·exact cy 1 (fL (cj (zF (Gl hd hQ hS _ (by kernel_rfl)))))
 ·exact cy 13 (fL (jK (Gl hd hQ hS)))
/- (*farwriter/screen.terminal).move -/
def auQ(r:ag)(e:PX)(st:St):Prop:=aV abE 4 ((.bE []),[(eo r),(aH r.af),(aI r.af),(aM r.af),.box []]) e st
def f244(a1 a2:Int)(a3:ag):Option (ag):=((f214 a3 [] 2).bind fun z8=>(bif z8 then ((f237 (IntKind.i64.wrap (a1+a3.af.jx)) a3.af.jx (IntKind.i64.wrap (a3.af.cZ-1))).bind fun z9=>((f212 a2 (ag.mk ({a3.af with Row:=z9}) a3.sent)).bind fun dG=>((bO (decide (dG.af.bn.length=a3.af.bn.length))).bind fun cS=>((bO (decide (dG.af.aT.Cells.length=a3.af.aT.Cells.length))).bind fun z12=>((bO (decide (dG.af.aG.Cells.length=a3.af.aG.Cells.length))).bind fun dP=>(some dG)))))) else ((f237 a1 0 (IntKind.i64.wrap (a3.af.aG.bV-1))).bind fun dU=>((f212 a2 (ag.mk ({a3.af with Row:=dU}) a3.sent)).bind fun fk=>((bO (decide (fk.af.bn.length=a3.af.bn.length))).bind fun dy=>((bO (decide (fk.af.aT.Cells.length=a3.af.aT.Cells.length))).bind fun fC=>((bO (decide (fk.af.aG.Cells.length=a3.af.aG.Cells.length))).bind fun fD=>(some fk))))))))
theorem Ue{d:Nat}(hd:3≤d){a1 a2:Int}{a3 r:ag}(hS:f244 a1 a2 a3=some r):bW av aX d 244 [(pt 0),(dI a1),(dI a2)] [(eo a3),(aH a3.af),(aI a3.af),(aM a3.af)]=some ((.bE []),[(eo r),(aH r.af),(aI r.af),(aM r.af),.box []]):=by
 refine cL auQ hd (fun Q hQ=>?_) ae7
 refine aC (zS (zL 1 (aq hS (fun z8 je hS=>zC 7 (si (aU hd rfl) je) (zK (sR 7 hS (fun hS=>?_) (fun hS=>?_)))))))
 ·exact zT (cC (cy 19 (aq hS (fun z9 jI hS=>dr (some 27) none (.call 237 [(tm 15),(tm 20),(tm 26)]) (bX (DZ (aU hd rfl) jI)) (cy 4 (fL (cj (a_ (zL 2 (l6 46 (fun _ h=>gQ (aU hd rfl) h) hS (fun dG jF hS=>nL hS hQ)))))))))))
 ·exact zF (a_ (zL 9 (aq hS (fun dU kg hS=>zC 40 (DZ (aU hd rfl) kg) (zL 4 (zK (a_ (zL 2 (l6 46 (fun _ h=>gQ (aU hd rfl) h) hS (fun fk kX hS=>nL hS hQ))))))))))
/- farwriter/tabs.Back -/
def N6(oq mM:Int):St:=⟨(up (up u0 7 (dI mM)) 6 (dI oq)),h0⟩
theorem agv{oq mM:Int}:cP (N6 oq mM) 0 Jj.res=some ((.bE [(dI oq),(dI mM)]),[]):=by
 kernel_rfl
def acI(r:Int×Int)(e:PX)(st:St):Prop:=aV Jj 0 ((.bE [(dI r.1),(dI r.2)]),[]) e st
def Yi(a1:bq)(a2 a3:Int)(x:Int×Int):St:=⟨(up (up (up (up u0 8 (dI x.2)) 3 (pt 32)) 2 (dI x.1)) 1 (dI a2)),(up h0 32 ⟨0,some (.box (((cE .u64).row 4 a1.Bits)++ []))⟩)⟩
def sG(a1:bq)(a2 a3:Int)(x:Int×Int)(st:St):Prop:=au [1,2,3,8] [(32,.id 32)] [] st=Yi a1 a2 a3 x
def Bo(a1:bq)(a2 a3:Int):St:=⟨(up u0 1 (dI a2)),h0⟩
def vX(a1:bq)(a2 a3:Int)(z:Unit⊕(Int×Int))(e:PX)(st:St):Prop:=(match z with | .inl z=>e= .exit 0∧st=Bo a1 a2 a3 | .inr z=>e= .ret∧dY Jj.fin st=N6 z.1 z.2)
def Mj(a1:bq)(a2 a3:Int)(dZ gj:Int):St:=⟨(up (up (up (up u0 8 (dI gj)) 3 (pt 32)) 2 (dI dZ)) 1 (dI a2)),(up h0 32 ⟨0,some (.box (((cE .u64).row 4 a1.Bits)++ []))⟩)⟩
def yJ(a1:bq)(a2 a3:Int)(dZ gj:Int):Option ((Int×Int)⊕(Unit⊕(Int×Int))):=((f242 a1 gj).bind fun z4=>(bif z4 then (bif (decide ((IntKind.i64.wrap (dZ-1))=0)) then (some (.inr (.inr (gj,0)))) else (some (.inl ((IntKind.i64.wrap (dZ-1)),gj)))) else (some (.inl (dZ,gj)))))
theorem Kr(hd:2≤d){a1:bq}{a2 a3:Int}{r:(Int×Int)⊕(Unit⊕(Int×Int))}(hQ:FQ (bG (sG a1 a2 a3) (vX a1 a2 a3) r) Q){dZ gj:Int}(hS:yJ a1 a2 a3 dZ gj=some r): ∀st,au [1,2,3,8] [(32,.id 32)] [] st=Mj a1 a2 a3 dZ gj→ZX d Q abF [.blk 1] st:=by
 intro st he
 refine ay he (zS (zL 2 (aq hS (fun z4 jf hS=>zC 32 (T3 (aU hd rfl) jf) (zK (sR 32 hS (fun hS=>?_) (fun hS=>?_)))))))
 ·refine zT (zS (zL 3 (zK (zS (zL 1 (sB 36 hS (fun hS=>?_) (fun hS=>?_)))))))
  ·exact zK (zT (zS (zL 3 (zK (cM (cr (bk (mX hS hQ))))))))
  ·exact lL hS hQ
 ·exact lR hS hQ
def Mk(a1:bq)(a2 a3:Int)(rB iQ:Int):St:=⟨(up (up (up (up u0 8 (dI iQ)) 3 (pt 32)) 2 (dI rB)) 1 (dI a2)),(up h0 32 ⟨0,some (.box (((cE .u64).row 4 a1.Bits)++ []))⟩)⟩
def yK(a1:bq)(a2 a3:Int)(rB iQ:Int):Option ((Int×Int)⊕(Unit⊕(Int×Int))):=(bif (decide ((IntKind.i64.wrap (iQ-1))<0)) then (some (.inr (.inr (0,0)))) else (yJ a1 a2 a3 rB (IntKind.i64.wrap (iQ-1))))
theorem Ks(hd:2≤d){a1:bq}{a2 a3:Int}{r:(Int×Int)⊕(Unit⊕(Int×Int))}(hQ:FQ (bG (sG a1 a2 a3) (vX a1 a2 a3) r) Q){rB iQ:Int}(hS:yK a1 a2 a3 rB iQ=some r): ∀st,au [1,2,3,8] [(32,.id 32)] [] st=Mk a1 a2 a3 rB iQ→ZX d Q abG [] st:=by
 intro st he
 refine ay he (bz (aC (zS (zL 3 (zK (zS (zL 1 (sB 29 hS (fun hS=>?_) (fun hS=>?_)))))))))
 ·exact zK (zT (zS (zL 2 (zK (cM (bP (cr (bk (mX hS hQ)))))))))
 ·exact jL (Kr hd hQ hS)
def Ej(a1:bq)(a2 a3:Int)(x:Int×Int):Option ((Int×Int)⊕(Unit⊕(Int×Int))):=(bif (decide (0<x.1)) then (yK a1 a2 a3 x.1 x.2) else (some (.inr (.inl ()))))
theorem Uf(hd:2≤d){a1:bq}{a2 a3:Int}{r:(Int×Int)⊕(Unit⊕(Int×Int))}(hQ:FQ (bG (sG a1 a2 a3) (vX a1 a2 a3) r) Q){x:Int×Int}(hS:Ej a1 a2 a3 x=some r)(he:sG a1 a2 a3 x st):ZX d Q abH [] st:=by
 refine ay he (aC (zS (zL 1 (sB 25 hS (fun hS=>?_) (fun hS=>?_)))))
 ·exact jL (Ks hd hQ hS)
 ·exact zK (zF (ay (J:=Bo a1 a2 a3) (by kernel_rfl) (dh (cY (bk (jA hS hQ))))))
def Yj(a1:bq)(a2 a3:Int):St:=⟨(up (up (up u0 3 (pt 32)) 2 (dI a3)) 1 (dI a2)),(up h0 32 ⟨0,some (.box (((cE .u64).row 4 a1.Bits)++ []))⟩)⟩
def Kt(a1:bq)(a2 a3:Int):Option (Int×Int):=((b9 (Ej a1 a2 a3) (a3,a2)).bind fun z5=>(Sum.elim (fun z6=>(some (a2,0))) (fun z7=>(some (z7.1,z7.2))) z5))
theorem Ug(hd:2≤d){a1:bq}{a2 a3:Int}{r:Int×Int}(hQ:FQ (acI r) Q)(hS:Kt a1 a2 a3=some r): ∀st,au [1,2,3] [(32,.id 32)] [] st=Yj a1 a2 a3→ZX d Q abI [] st:=by
 intro st he
 refine ay he (aC (zS (zL 2 (zK (bz (aq hS (fun z5 jZ hS=>dN (sG a1 a2 a3) (vX a1 a2 a3) (fun x st r Q h0 hS hQ=>Uf hd hQ hS h0) (x:=(a3,a2)) (z:=z5) (by show au _ _ _ _=_;kernel_rfl) jZ ?_)))))))
 rcases z5 with z6 | z7
 ·replace hS:=(show _=_ from hS)
  simp only [ua] at hS
  intro e bl _ hX
  obtain ⟨rfl,rfl⟩:_∧_:=hX
  exact nK hS hQ
 ·simp only [ud] at hS
  intro e bl _ hX
  obtain ⟨rfl,hX⟩:_∧_:=hX
  exact cr (bP (bk (eA hS hQ (jv (by kernel_rfl) ((congrArg (fun s=>cP s 0 Jj.res) hX).trans agv)))))
def f245(a1:bq)(a2 a3:Int):Option (Int×Int):=(bif (decide (a2<0)) then (some (0,1)) else (bif (decide (255<a2)) then (some (0,1)) else (bif (decide (a3<0)) then (some (0,1)) else (bif (decide (16383<a3)) then (some (0,1)) else (Kt a1 a2 a3)))))
theorem anL{d:Nat}(hd:2≤d){a1:bq}{a2 a3:Int}{r:Int×Int}(hS:f245 a1 a2 a3=some r):bW av aX d 245 [(.agg (((cE .u64).row 4 a1.Bits)++ [])),(dI a2),(dI a3)] []=some ((.bE [(dI r.1),(dI r.2)]),[]):=by
 refine cL acI hd (fun Q hQ=>?_) ae8
 refine zS (zL 3 (zK (aC (zS (zL 1 (sB 10 hS (fun hS=>?_) (fun hS=>?_)))))))
 ·exact nL hS hQ
 ·refine zL 2 (sB 13 hS (fun hS=>?_) (fun hS=>?_))
  ·exact nL hS hQ
  ·refine zL 3 (sB 17 hS (fun hS=>?_) (fun hS=>?_))
   ·exact nL hS hQ
   ·refine zL 3 (sB 21 hS (fun hS=>?_) (fun hS=>?_))
    ·exact nL hS hQ
    ·exact jL (Ug hd hQ hS)
/- (*farwriter/screen.terminal).cursor -/
def QS(r:ag×Bool)(e:PX)(st:St):Prop:=aV abL 4 ((dB r.2),[(eo r.1),(aH r.1.af),(aI r.1.af),(aM r.1.af),.box []]) e st
def Yk(a1:aL)(a2:Int)(a3:ag)(tI:Bool):St:=⟨(up (up (up (up (up u0 79 (dB tI)) 12 (dI a1.Code)) 4 (pt 40)) 2 (dI a2)) 0 (pt 0)),(up (up (up (up (up h0 40 ⟨0,some (.box (I_ a1 (dL a1.Args)))⟩) 3 ⟨0,some (aM a3.af)⟩) 2 ⟨0,some (aI a3.af)⟩) 1 ⟨0,some (aH a3.af)⟩) 0 ⟨0,some (eo a3)⟩)⟩
def yL(a1:aL)(a2:Int)(a3:ag)(tI:Bool):Option (ag×Bool):=(bif tI then ((f225 a1.Args 1).bind fun awU=>((f244 (IntKind.i64.wrap (a2-1)) (IntKind.i64.wrap (awU-1)) a3).bind fun z105=>((bO (decide (z105.af.bn.length=a3.af.bn.length))).bind fun aFq=>((bO (decide (z105.af.aT.Cells.length=a3.af.aT.Cells.length))).bind fun z107=>((bO (decide (z105.af.aG.Cells.length=a3.af.aG.Cells.length))).bind fun aFr=>(some (z105,true))))))) else (bif (decide (a1.Code=73)) then ((f218 a3.af.gN a3.af.cQ a2 a3.af.aG.bR).bind fun z109=>((f212 z109.1 a3).bind fun Uh=>((bO (decide (Uh.af.bn.length=a3.af.bn.length))).bind fun aFs=>((bO (decide (Uh.af.aT.Cells.length=a3.af.aT.Cells.length))).bind fun aFt=>((bO (decide (Uh.af.aG.Cells.length=a3.af.aG.Cells.length))).bind fun aFu=>(some (Uh,true))))))) else (bif (decide (a1.Code=90)) then ((f245 a3.af.gN a3.af.cQ a2).bind fun awV=>((f212 awV.1 a3).bind fun Ui=>((bO (decide (Ui.af.bn.length=a3.af.bn.length))).bind fun z116=>((bO (decide (Ui.af.aT.Cells.length=a3.af.aT.Cells.length))).bind fun z117=>((bO (decide (Ui.af.aG.Cells.length=a3.af.aG.Cells.length))).bind fun aFv=>(some (Ui,true))))))) else (bif (decide (a1.Code=115)) then ((f221 a3).bind fun z119=>((bO (decide (z119.af.bn.length=a3.af.bn.length))).bind fun aFw=>((bO (decide (z119.af.aT.Cells.length=a3.af.aT.Cells.length))).bind fun aFx=>((bO (decide (z119.af.aG.Cells.length=a3.af.aG.Cells.length))).bind fun aFy=>(some (z119,true)))))) else (bif (decide (a1.Code=117)) then ((f222 a3).bind fun Uj=>((bO (decide (Uj.af.bn.length=a3.af.bn.length))).bind fun z124=>((bO (decide (Uj.af.aT.Cells.length=a3.af.aT.Cells.length))).bind fun aFz=>((bO (decide (Uj.af.aG.Cells.length=a3.af.aG.Cells.length))).bind fun aFA=>(some (Uj,true)))))) else (some (a3,false)))))))
theorem yM(hd:4≤d){a1:aL}{a2:Int}{a3:ag}{r:ag×Bool}(hQ:FQ (QS r) Q){tI:Bool}(hS:yL a1 a2 a3 tI=some r): ∀st,au [0,2,4,12,79] [(0,.id 0),(1,.id 1),(2,.id 2),(3,.id 3),(40,.id 40)] [] st=Yk a1 a2 a3 tI→ZX d Q abJ [.blk 0,.seq Pt] st:=by
 intro st he
 refine ay he (sR 79 hS (fun hS=>?_) (fun hS=>?_))
 ·exact zT (a_ (zL 5 (aq hS (fun awU azI hS=>zC 87 (Ud (aU hd rfl) azI) (zL 1 (l6 89 (fun _ h=>Ue (aU hd rfl) h) hS (fun z105 aEW hS=>nL hS hQ)))))))
 ·refine zF (zS (sB 91 hS (fun hS=>?_) (fun hS=>?_)))
  ·exact zL 1 (zK (zT (aC (cC (cy 17 (aq hS (fun z109 azJ hS=>dr (some 110) none (.call 218 [(tm 97),(tm 102),(tm 103),(tm 109)]) (bX (T6 (aU hd rfl) azJ)) (cy 5 (fL (cj (a_ (zL 2 (l6 115 (fun _ h=>gQ (aU hd rfl) h) hS (fun Uh aEX hS=>nL hS hQ))))))))))))))
  ·refine zL 1 (zK (zF (zS (sB 117 hS (fun hS=>?_) (fun hS=>?_)))))
   ·exact zL 1 (zK (zT (aC (cC (cy 11 (aq hS (fun awV azK hS=>dr (some 130) none (.call 245 [(tm 123),(tm 128),(tm 129)]) (bX (anL (aU hd rfl) azK)) (cy 5 (fL (cj (a_ (zL 2 (l6 135 (fun _ h=>gQ (aU hd rfl) h) hS (fun Ui aEY hS=>nL hS hQ))))))))))))))
   ·refine zL 1 (zK (zF (zS (sB 137 hS (fun hS=>?_) (fun hS=>?_)))))
    ·exact zL 1 (zK (zT (a_ (zL 1 (l6 139 (fun _ h=>T8 (aU hd rfl) h) hS (fun z119 aEZ hS=>nL hS hQ))))))
    ·refine zL 1 (zK (zF (zS (sB 141 hS (fun hS=>?_) (fun hS=>?_)))))
     ·exact zL 1 (zK (zT (a_ (zL 1 (l6 143 (fun _ h=>T9 (aU hd rfl) h) hS (fun Uj aE0 hS=>nL hS hQ))))))
     ·exact nL hS hQ
def Yl(a1:aL)(a2:Int)(a3:ag)(oX:Bool):St:=⟨(up (up (up (up (up u0 61 (dB oX)) 12 (dI a1.Code)) 4 (pt 40)) 2 (dI a2)) 0 (pt 0)),(up (up (up (up (up h0 40 ⟨0,some (.box (I_ a1 (dL a1.Args)))⟩) 3 ⟨0,some (aM a3.af)⟩) 2 ⟨0,some (aI a3.af)⟩) 1 ⟨0,some (aH a3.af)⟩) 0 ⟨0,some (eo a3)⟩)⟩
def yN(a1:aL)(a2:Int)(a3:ag)(oX:Bool):Option (ag×Bool):=(bif oX then ((f212 (IntKind.i64.wrap (a2-1)) a3).bind fun z96=>((bO (decide (z96.af.bn.length=a3.af.bn.length))).bind fun z97=>((bO (decide (z96.af.aT.Cells.length=a3.af.aT.Cells.length))).bind fun z98=>((bO (decide (z96.af.aG.Cells.length=a3.af.aG.Cells.length))).bind fun z99=>(some (z96,true)))))) else (bif (decide (a1.Code=100)) then ((f244 (IntKind.i64.wrap (a2-1)) a3.af.cQ a3).bind fun Uk=>((bO (decide (Uk.af.bn.length=a3.af.bn.length))).bind fun aFB=>((bO (decide (Uk.af.aT.Cells.length=a3.af.aT.Cells.length))).bind fun aFC=>((bO (decide (Uk.af.aG.Cells.length=a3.af.aG.Cells.length))).bind fun aFD=>(some (Uk,true)))))) else (bif (decide (a1.Code=72)) then (yL a1 a2 a3 true) else (bif (decide (a1.Code=102)) then (yL a1 a2 a3 true) else (yL a1 a2 a3 false)))))
theorem yO(hd:4≤d){a1:aL}{a2:Int}{a3:ag}{r:ag×Bool}(hQ:FQ (QS r) Q){oX:Bool}(hS:yN a1 a2 a3 oX=some r): ∀st,au [0,2,4,12,61] [(0,.id 0),(1,.id 1),(2,.id 2),(3,.id 3),(40,.id 40)] [] st=Yl a1 a2 a3 oX→ZX d Q abK [.blk 0,.seq Pt] st:=by
 intro st he
 refine ay he (sR 61 hS (fun hS=>?_) (fun hS=>?_))
 ·exact zT (a_ (zL 3 (l6 67 (fun _ h=>gQ (aU hd rfl) h) hS (fun z96 aFE hS=>nL hS hQ))))
 ·refine zF (zS (sB 69 hS (fun hS=>?_) (fun hS=>?_)))
  ·exact zL 1 (zK (zT (a_ (zL 8 (l6 78 (fun _ h=>Ue (aU hd rfl) h) hS (fun Uk aE1 hS=>nL hS hQ))))))
  ·refine zL 1 (zK (zF (aC (zS (sB 80 hS (fun hS=>?_) (fun hS=>?_))))))
   ·exact jL (yM hd hQ hS)
   ·refine zL 1 (zK (zF (a_ (sB 81 hS (fun hS=>?_) (fun hS=>?_)))))
    ·exact zL 1 (zK (yM hd hQ hS _ (by kernel_rfl)))
    ·exact jL (yM hd hQ hS)
def f227(a1:aL)(a2:Int)(a3:ag):Option (ag×Bool):=(bif (decide (a1.Code=65)) then ((f243 a2 a3).bind fun z64=>((bO (decide (z64.af.bn.length=a3.af.bn.length))).bind fun xK=>((bO (decide (z64.af.aT.Cells.length=a3.af.aT.Cells.length))).bind fun z66=>((bO (decide (z64.af.aG.Cells.length=a3.af.aG.Cells.length))).bind fun z67=>(some (z64,true)))))) else (bif (decide (a1.Code=66)) then ((f243 (IntKind.i64.wrap (0-a2)) a3).bind fun pN=>((bO (decide (pN.af.bn.length=a3.af.bn.length))).bind fun GV=>((bO (decide (pN.af.aT.Cells.length=a3.af.aT.Cells.length))).bind fun z70=>((bO (decide (pN.af.aG.Cells.length=a3.af.aG.Cells.length))).bind fun WZ=>(some (pN,true)))))) else (bif (decide (a1.Code=67)) then ((f212 (IntKind.i64.wrap (a3.af.cQ+a2)) a3).bind fun z72=>((bO (decide (z72.af.bn.length=a3.af.bn.length))).bind fun Td=>((bO (decide (z72.af.aT.Cells.length=a3.af.aT.Cells.length))).bind fun W4=>((bO (decide (z72.af.aG.Cells.length=a3.af.aG.Cells.length))).bind fun z75=>(some (z72,true)))))) else (bif (decide (a1.Code=68)) then ((f212 (IntKind.i64.wrap (a3.af.cQ-a2)) a3).bind fun z76=>((bO (decide (z76.af.bn.length=a3.af.bn.length))).bind fun Te=>((bO (decide (z76.af.aT.Cells.length=a3.af.aT.Cells.length))).bind fun Tf=>((bO (decide (z76.af.aG.Cells.length=a3.af.aG.Cells.length))).bind fun z79=>(some (z76,true)))))) else (bif (decide (a1.Code=69)) then ((f243 (IntKind.i64.wrap (0-a2)) a3).bind fun z80=>((bO (decide (z80.af.bn.length=a3.af.bn.length))).bind fun z81=>((bO (decide (z80.af.aT.Cells.length=a3.af.aT.Cells.length))).bind fun z82=>((bO (decide (z80.af.aG.Cells.length=a3.af.aG.Cells.length))).bind fun z83=>((f212 0 z80).bind fun z84=>((bO (decide (z84.af.bn.length=z80.af.bn.length))).bind fun z85=>((bO (decide (z84.af.aT.Cells.length=z80.af.aT.Cells.length))).bind fun z86=>((bO (decide (z84.af.aG.Cells.length=z80.af.aG.Cells.length))).bind fun z87=>(some (z84,true)))))))))) else (bif (decide (a1.Code=70)) then ((f243 a2 a3).bind fun Ul=>((bO (decide (Ul.af.bn.length=a3.af.bn.length))).bind fun z89=>((bO (decide (Ul.af.aT.Cells.length=a3.af.aT.Cells.length))).bind fun z90=>((bO (decide (Ul.af.aG.Cells.length=a3.af.aG.Cells.length))).bind fun z91=>((f212 0 Ul).bind fun z92=>((bO (decide (z92.af.bn.length=Ul.af.bn.length))).bind fun z93=>((bO (decide (z92.af.aT.Cells.length=Ul.af.aT.Cells.length))).bind fun z94=>((bO (decide (z92.af.aG.Cells.length=Ul.af.aG.Cells.length))).bind fun z95=>(some (z92,true)))))))))) else (bif (decide (a1.Code=71)) then (yN a1 a2 a3 true) else (bif (decide (a1.Code=96)) then (yN a1 a2 a3 true) else (yN a1 a2 a3 false)))))))))
theorem anP{d:Nat}(hd:4≤d){a1:aL}{a2:Int}{a3:ag}{r:ag×Bool}(hS:f227 a1 a2 a3=some r):bW av aX d 227 [(pt 0),(Nd a1),(dI a2)] [(eo a3),(aH a3.af),(aI a3.af),(aM a3.af)]=some ((dB r.2),[(eo r.1),(aH r.1.af),(aI r.1.af),(aM r.1.af),.box []]):=by
 refine cL QS hd (fun Q hQ=>?_) aeV
 refine zS (zL 2 (zK (aC (zS (zL 2 (zK (bz (zS (sB 14 hS (fun hS=>?_) (fun hS=>?_))))))))))
 ·exact zL 1 (zK (zT (a_ (zL 2 (l6 17 (fun _ h=>Ei (aU hd rfl) h) hS (fun z64 acs hS=>nL hS hQ))))))
 ·refine zL 1 (zK (zF (zS (sB 19 hS (fun hS=>?_) (fun hS=>?_)))))
  ·exact zL 1 (zK (zT (a_ (zL 3 (l6 23 (fun _ h=>Ei (aU hd rfl) h) hS (fun pN NC hS=>nL hS hQ))))))
  ·refine zL 1 (zK (zF (zS (sB 25 hS (fun hS=>?_) (fun hS=>?_)))))
   ·exact zL 1 (zK (zT (a_ (zL 8 (l6 34 (fun _ h=>gQ (aU hd rfl) h) hS (fun z72 acf hS=>nL hS hQ))))))
   ·refine zL 1 (zK (zF (zS (sB 36 hS (fun hS=>?_) (fun hS=>?_)))))
    ·exact zL 1 (zK (zT (a_ (zL 8 (l6 45 (fun _ h=>gQ (aU hd rfl) h) hS (fun z76 aFF hS=>nL hS hQ))))))
    ·refine zL 1 (zK (zF (zS (sB 47 hS (fun hS=>?_) (fun hS=>?_)))))
     ·exact zL 1 (zK (zT (zS (zL 3 (l6 51 (fun _ h=>Ei (aU hd rfl) h) hS (fun z80 aFG hS=>zK (a_ (zL 1 (l6 53 (fun _ h=>gQ (aU hd rfl) h) hS (fun z84 aFH hS=>nL hS hQ))))))))))
     ·refine zL 1 (zK (zF (zS (sB 55 hS (fun hS=>?_) (fun hS=>?_)))))
      ·exact zL 1 (zK (zT (zS (zL 2 (l6 58 (fun _ h=>Ei (aU hd rfl) h) hS (fun Ul aFI hS=>zK (a_ (zL 1 (l6 60 (fun _ h=>gQ (aU hd rfl) h) hS (fun z92 aFJ hS=>nL hS hQ))))))))))
      ·refine zL 1 (zK (zF (aC (zS (sB 62 hS (fun hS=>?_) (fun hS=>?_))))))
       ·exact jL (yO hd hQ hS)
       ·refine zL 1 (zK (zF (a_ (sB 63 hS (fun hS=>?_) (fun hS=>?_)))))
        ·exact zL 1 (zK (yO hd hQ hS _ (by kernel_rfl)))
        ·exact jL (yO hd hQ hS)
/- (*farwriter/screen.terminal).erase -/
def zY(r:ag×Bool)(e:PX)(st:St):Prop:=aV abR 4 ((dB r.2),[(eo r.1),(aH r.1.af),(aI r.1.af),(aM r.1.af)]) e st
def Ku(a1 a2 a3:Int)(a4:ag):St:=⟨(up (up (up (up (up (up u0 1000003 .un) 1000002 .un) 1000001 .un) 9 (dI a4.af.aG.bR)) 2 (dI (IntKind.i64.wrap (0-a2)))) 0 (pt 0)),(kG a4)⟩
def Kv(a1 a2 a3:Int)(a4:ag):Option (ag×Bool):=((f216 (ag.mk ({a4.af with eV:=false}) a4.sent) []).bind fun z7=>((f215 a4.af.aG.bR a4.af.aG.bV a4.af.Row a4.af.cQ a4.af.aG.bR (IntKind.i64.wrap (0-a2)) z7 a4.af.aG.Cells).bind fun z8=>((bO (decide (z8.length=a4.af.aG.Cells.length))).bind fun z9=>(some ((ag.mk ({a4.af with aG:=(bQ.mk a4.af.aG.bR a4.af.aG.bV z8),eV:=false}) a4.sent),true)))))
theorem Um(hd:8≤d){a1 a2 a3:Int}{a4:ag}{r:ag×Bool}(hQ:FQ (zY r) Q)(hS:Kv a1 a2 a3 a4=some r): ∀st,au [0,2,9,1000001,1000002,1000003] [(0,.id 0),(1,.id 1),(2,.id 2),(3,.id 3)] [] st=Ku a1 a2 a3 a4→ZX d Q abM [.blk 0,.seq zf] st:=by
 intro st he
 refine ay he (zS (zL 5 (zK (cC (cy 18 (aq hS (fun z7 l8 hS=>dr (some 47) none (c1 216 46) (bX (x_ (aU hd rfl) l8)) (aq hS (fun z8 je hS=>aq hS (fun z9 jI hS=>dr (some 48) none (.fO 215 [(tm 33),(tm 38),(tm 43),(tm 44),(tm 45),(tm 47)]) (vk [1] [(aH a4.af)] (TY (aU hd rfl) je) (sW ak (e1:=87) (k1:=4) (xs:=a4.af.aG.Cells) (ys:=z8) (by kernel_rfl) jI qb)) ?_))))))))))
 have lz9:a4.af.aG.Cells.length=z8.length:=(of_decide_eq_true (gW jI)).symm
 try delta Ku
 try delta ue eo kG mL uf jS lH kV j_ kW
 try delta bS
 try rw [lz9]
 exact fL (nK hS hQ)
def Kw(a1 a2 a3:Int)(a4:ag):St:=⟨(up (up (up (up (up u0 1000003 .un) 1000002 .un) 1000001 .un) 2 (dI a2)) 0 (pt 0)),(kG a4)⟩
def Ky(a1 a2 a3:Int)(a4:ag):Option (ag×Bool):=((f216 (ag.mk ({a4.af with eV:=false}) a4.sent) []).bind fun dG=>((f239 a4.af.aG.bR a4.af.aG.bV a4.af.jx a4.af.cZ a2 dG a4.af.aG.Cells).bind fun cS=>((bO (decide (cS.length=a4.af.aG.Cells.length))).bind fun z12=>(some ((ag.mk ({a4.af with aG:=(bQ.mk a4.af.aG.bR a4.af.aG.bV cS),eV:=false}) a4.sent),true)))))
theorem Un(hd:8≤d){a1 a2 a3:Int}{a4:ag}{r:ag×Bool}(hQ:FQ (zY r) Q)(hS:Ky a1 a2 a3 a4=some r): ∀st,au [0,2,1000001,1000002,1000003] [(0,.id 0),(1,.id 1),(2,.id 2),(3,.id 3)] [] st=Kw a1 a2 a3 a4→ZX d Q abN [.blk 0,.seq zf] st:=by
 intro st he
 refine ay he (zS (zL 5 (zK (cC (cy 17 (aq hS (fun dG jF hS=>dr (some 204) none (c1 216 203) (bX (x_ (aU hd rfl) jF)) (aq hS (fun cS kf hS=>aq hS (fun z12 gO hS=>dr (some 205) none (.fO 239 [(tm 191),(tm 196),(tm 201),(tm 202),(tm 204)]) (vk [1] [(aH a4.af)] (Kc (aU hd rfl) kf) (sW ak (e1:=87) (k1:=4) (xs:=a4.af.aG.Cells) (ys:=cS) (by kernel_rfl) gO qb)) ?_))))))))))
 have anv:a4.af.aG.Cells.length=cS.length:=(of_decide_eq_true (gW gO)).symm
 try delta Kw
 try delta ue eo kG mL uf jS lH kV j_ kW
 try delta bS
 try rw [anv]
 exact fL (nK hS hQ)
def Ym(a1 a2 a3:Int)(a4:ag)(mZ:Bool):St:=⟨(up (up (up (up (up (up (up u0 1000003 .un) 1000002 .un) 1000001 .un) 176 (dB mZ)) 2 (dI a2)) 1 (dI a1)) 0 (pt 0)),(kG a4)⟩
def yP(a1 a2 a3:Int)(a4:ag)(mZ:Bool):Option (ag×Bool):=(bif mZ then (bif (decide (a1=84)) then none else (Ky a1 a2 a3 a4)) else (some (a4,false)))
theorem Gm(hd:8≤d){a1 a2 a3:Int}{a4:ag}{r:ag×Bool}(hQ:FQ (zY r) Q){mZ:Bool}(hS:yP a1 a2 a3 a4 mZ=some r): ∀st,au [0,1,2,176,1000001,1000002,1000003] [(0,.id 0),(1,.id 1),(2,.id 2),(3,.id 3)] [] st=Ym a1 a2 a3 a4 mZ→ZX d Q abO [.blk 0,.seq zf] st:=by
 intro st he
 refine ay he (sR 176 hS (fun hS=>?_) (fun hS=>?_))
 ·refine zT (aC (zS (zL 1 (sB 180 hS (fun hS=>?_) (fun hS=>?_)))))
  ·cases hS
  ·exact jL (Un hd hQ hS)
 ·exact nR hS hQ
def Yn(a1 a2 a3:Int)(a4:ag):St:=⟨(up (up (up (up (up (up (up (up u0 1000003 .un) 1000002 .un) 1000001 .un) 131 (dB false)) 17 (dI a1)) 2 (dI a2)) 1 (dI a1)) 0 (pt 0)),(kG a4)⟩
def Ek(a1 a2 a3:Int)(a4:ag):Option (ag×Bool):=(bif (decide (a1=83)) then (yP a1 a2 a3 a4 true) else (bif (decide (a1=84)) then none else (yP a1 a2 a3 a4 false)))
theorem Uo(hd:8≤d){a1 a2 a3:Int}{a4:ag}{r:ag×Bool}(hQ:FQ (zY r) Q)(hS:Ek a1 a2 a3 a4=some r): ∀st,au [0,1,2,17,131,1000001,1000002,1000003] [(0,.id 0),(1,.id 1),(2,.id 2),(3,.id 3)] [] st=Yn a1 a2 a3 a4→ZX d Q abP [.blk 0,.seq zf] st:=by
 intro st he
 refine ay he (zF (aC (zS (sB 177 hS (fun hS=>?_) (fun hS=>?_)))))
 ·exact jL (Gm hd hQ hS)
 ·refine zL 1 (zK (zF (a_ (sB 178 hS (fun hS=>?_) (fun hS=>?_)))))
  ·cases hS
  ·exact jL (Gm hd hQ hS)
def Yp(a1 a2 a3:Int)(a4:ag)(p8:Bool):St:=⟨(up (up (up (up (up (up (up (up (up (up u0 1000003 .un) 1000002 .un) 1000001 .un) 18 (dB p8)) 17 (dI a1)) 9 (dI a4.af.aG.bR)) 3 (dI a3)) 2 (dI a2)) 1 (dI a1)) 0 (pt 0)),(kG a4)⟩
def El(a1 a2 a3:Int)(a4:ag)(p8:Bool):Option (ag×Bool):=(bif p8 then (bif (decide (a1=80)) then (Kv a1 a2 a3 a4) else none) else (bif (decide (a1=74)) then none else (bif (decide (a1=75)) then none else (bif (decide (a1=88)) then none else (bif (decide (a1=76)) then none else (bif (decide (a1=77)) then none else (Ek a1 a2 a3 a4)))))))
theorem Gn(hd:8≤d){a1 a2 a3:Int}{a4:ag}{r:ag×Bool}(hQ:FQ (zY r) Q){p8:Bool}(hS:El a1 a2 a3 a4 p8=some r): ∀st,au [0,1,2,3,9,17,18,1000001,1000002,1000003] [(0,.id 0),(1,.id 1),(2,.id 2),(3,.id 3)] [] st=Yp a1 a2 a3 a4 p8→ZX d Q abQ [.blk 0,.seq zf] st:=by
 intro st he
 refine ay he (sR 18 hS (fun hS=>?_) (fun hS=>?_))
 ·refine zT (aC (zS (zL 1 (sB 22 hS (fun hS=>?_) (fun hS=>?_)))))
  ·exact zK (zT (a_ (zL 3 (zK (Um hd hQ hS _ (by kernel_rfl))))))
  ·cases hS
 ·refine zF (zS (sB 50 hS (fun hS=>?_) (fun hS=>?_)))
  ·cases hS
  ·refine zL 1 (zK (zF (zS (sB 104 hS (fun hS=>?_) (fun hS=>?_)))))
   ·cases hS
   ·refine zL 1 (zK (zF (zS (sB 109 hS (fun hS=>?_) (fun hS=>?_)))))
    ·cases hS
    ·refine zL 1 (zK (zF (aC (zS (sB 132 hS (fun hS=>?_) (fun hS=>?_))))))
     ·cases hS
     ·refine zL 1 (zK (zF (a_ (sB 133 hS (fun hS=>?_) (fun hS=>?_)))))
      ·cases hS
      ·exact jL (Uo hd hQ hS)
def f228(a1 a2 a3:Int)(a4:ag):Option (ag×Bool):=(bif (decide (a1=64)) then none else (bif (decide (a1=80)) then (El a1 a2 a3 a4 true) else (El a1 a2 a3 a4 false)))
theorem anQ{d:Nat}(hd:8≤d){a1 a2 a3:Int}{a4:ag}{r:ag×Bool}(hS:f228 a1 a2 a3 a4=some r):bW av aX d 228 [(pt 0),(dI a1),(dI a2),(dI a3)] [(eo a4),(aH a4.af),(aI a4.af),(aM a4.af)]=some ((dB r.2),[(eo r.1),(aH r.1.af),(aI r.1.af),(aM r.1.af)]):=by
 refine cL zY hd (fun Q hQ=>?_) aeW
 refine zS (zL 1 (zK (zS (zL 7 (zK (aC (zS (zL 1 (zK (bz (aC (zS (sB 19 hS (fun hS=>?_) (fun hS=>?_))))))))))))))
 ·cases hS
 ·refine zL 1 (zK (zF (a_ (sB 20 hS (fun hS=>?_) (fun hS=>?_)))))
  ·exact zL 1 (zK (Gn hd hQ hS _ (by kernel_rfl)))
  ·exact jL (Gn hd hQ hS)
end
end Go.Proofs.YtimbfadnabfabaaGreatDoor.Pm
