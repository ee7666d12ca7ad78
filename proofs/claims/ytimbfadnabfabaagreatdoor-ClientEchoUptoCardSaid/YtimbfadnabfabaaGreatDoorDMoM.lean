/- Typed functions, and that the codes are these. Printed by dec.py. -/
import Derived.Test.YtimbfadnabfabaaGreatDoorDMoJ
namespace Go.Proofs.YtimbfadnabfabaaGreatDoor.Pm
noncomputable section
set_option maxRecDepth 1000000
set_option maxHeartbeats 20000000
set_option linter.unusedVariables false
set_option linter.unusedSimpArgs false
variable {d : Nat} {Q : PQ} {st : St}
/- (*farwriter/screen.terminal).escape -/
def aen(r:ag)(e:PX)(st:St):Prop:=aU ac8 4 ((.bH []),[(ek r),(aH r.af),(aJ r.af),(aN r.af)]) e st
def YM(a1:Int)(a2:ag)(fH:Bool):St:=⟨(up (up (up (up (up (up (up u0 1000003 .un) 1000002 .un) 1000001 .un) 47 (dB fH)) 4 (dI a1)) 1 (dI a1)) 0 (pt 0)),(kN a2)⟩
def qq(a1:Int)(a2:ag)(fH:Bool):Option (ag):=(bif fH then (bif (decide (a1=61)) then ((f223 32 true a2).bind fun qF=>((bU (decide (qF.af.bn.length=a2.af.bn.length))).bind fun TR=>((bU (decide (qF.af.aT.Cells.length=a2.af.aT.Cells.length))).bind fun z44=>((bU (decide (qF.af.aG.Cells.length=a2.af.aG.Cells.length))).bind fun QK=>(some qF))))) else ((f223 32 false a2).bind fun z46=>((bU (decide (z46.af.bn.length=a2.af.bn.length))).bind fun Eg=>((bU (decide (z46.af.aT.Cells.length=a2.af.aT.Cells.length))).bind fun y7=>((bU (decide (z46.af.aG.Cells.length=a2.af.aG.Cells.length))).bind fun z49=>(some z46)))))) else (bif (decide (a1=99)) then ((f224 a2).bind fun qY=>(some (ag.mk ({qY.1.af with bn:= []}) qY.1.sent))) else (some a2)))
theorem zR(hd:9≤d){a1:Int}{a2 r:ag}(hQ:FQ (aen r) Q){fH:Bool}(hS:qq a1 a2 fH=some r): ∀st,au [0,1,4,47,1000001,1000002,1000003] [(0,.id 0),(1,.id 1),(2,.id 2),(3,.id 3)] [] st=YM a1 a2 fH→ZX d Q ac6 [.blk 0] st:=by
 intro st he
 refine av he ?_
 unfold qq at hS
 refine sR 47 hS (fun hS=>?_) (fun hS=>?_)
 ·refine zT (a_ (zL 2 (sB 52 hS (fun hS=>?_) (fun hS=>?_))))
  ·exact mH 53 (fun _ h=>Lh (aV hd rfl) h) hS (fun qF Oy hS=>nL hS hQ)
  ·exact mH 53 (fun _ h=>Lh (aV hd rfl) h) hS (fun z46 OA hS=>nL hS hQ)
 ·refine zF (zS (sB 55 hS (fun hS=>?_) (fun hS=>?_)))
  ·exact zL 1 (zK (zT (a_ (zL 1 (aq hS (fun qY Oc hS=>fW 57 [0,1,2,3] (aqw (aV hd rfl) Oc) (nL hS hQ)))))))
  ·exact nL hS hQ
def f189(a1:Int)(a2:ag):Option (ag):=(bif (decide (a1=68)) then ((f213 a2).bind fun z26=>(some z26)) else (bif (decide (a1=69)) then ((f212 0 a2).bind fun yu=>((bU (decide (yu.af.bn.length=a2.af.bn.length))).bind fun z28=>((bU (decide (yu.af.aT.Cells.length=a2.af.aT.Cells.length))).bind fun oZ=>((bU (decide (yu.af.aG.Cells.length=a2.af.aG.Cells.length))).bind fun KD=>((f213 yu).bind fun z31=>(some z31)))))) else (bif (decide (a1=77)) then ((f219 a2).bind fun KE=>(some KE)) else (bif (decide (a1=72)) then ((f220 a2.af.eU a2.af.cP true).bind fun z33=>(some (ag.mk ({a2.af with eU:=z33.1}) a2.sent))) else (bif (decide (a1=55)) then ((f221 a2).bind fun QS=>((bU (decide (QS.af.bn.length=a2.af.bn.length))).bind fun KC=>((bU (decide (QS.af.aT.Cells.length=a2.af.aT.Cells.length))).bind fun z36=>((bU (decide (QS.af.aG.Cells.length=a2.af.aG.Cells.length))).bind fun z37=>(some QS))))) else (bif (decide (a1=56)) then ((f222 a2).bind fun MP=>((bU (decide (MP.af.bn.length=a2.af.bn.length))).bind fun Rj=>((bU (decide (MP.af.aT.Cells.length=a2.af.aT.Cells.length))).bind fun z40=>((bU (decide (MP.af.aG.Cells.length=a2.af.aG.Cells.length))).bind fun z41=>(some MP))))) else (bif (decide (a1=61)) then (qq a1 a2 true) else (bif (decide (a1=62)) then (qq a1 a2 true) else (qq a1 a2 false)))))))))
theorem aqx{d:Nat}(hd:9≤d){a1:Int}{a2 r:ag}(hS:f189 a1 a2=some r):bZ ay aX d 189 [(pt 0),(dI a1)] [(ek a2),(aH a2.af),(aJ a2.af),(aN a2.af)]=some ((.bH []),[(ek r),(aH r.af),(aJ r.af),(aN r.af)]):=by
 refine cI hd (fun Q hQ=>?_) af_
 unfold f189 at hS
 show ZR _ Q ac7 [] _
 replace hQ:FQ (aen r) Q:=hQ
 refine zS (zL 1 (zK (bw (zS (sB 6 hS (fun hS=>?_) (fun hS=>?_))))))
 ·exact zL 1 (zK (zT (a_ (zL 1 (aq hS (fun z26 uY hS=>fW 8 [0,1,2,3] (zA (aV hd rfl) uY) (nL hS hQ)))))))
 ·refine zL 1 (zK (zF (zS (sB 10 hS (fun hS=>?_) (fun hS=>?_)))))
  ·exact zL 1 (zK (zT (zS (zL 1 (mH 12 (fun _ h=>gT (aV hd rfl) h) hS (fun yu ayQ hS=>zK (a_ (zL 1 (aq hS (fun z31 ad9 hS=>fW 14 [0,1,2,3] (zA (aV hd rfl) ad9) (nL hS hQ)))))))))))
  ·refine zL 1 (zK (zF (zS (sB 16 hS (fun hS=>?_) (fun hS=>?_)))))
   ·exact zL 1 (zK (zT (a_ (zL 1 (aq hS (fun KE apM hS=>fW 18 [0,1,2,3] (aqo (aV hd rfl) apM) (nL hS hQ)))))))
   ·refine zL 1 (zK (zF (zS (sB 20 hS (fun hS=>?_) (fun hS=>?_)))))
    ·exact zL 1 (zK (zT (cG (cy 11 (aq hS (fun z33 aDQ hS=>di (some 33) none (.call 220 [(tm 27),(tm 32),(.const (.bool .true))]) (b_ (aqr (aV hd rfl) aDQ)) (cy 7 (fG (nK hS hQ)))))))))
    ·refine zL 1 (zK (zF (zS (sB 40 hS (fun hS=>?_) (fun hS=>?_)))))
     ·exact zL 1 (zK (zT (a_ (zL 1 (mH 42 (fun _ h=>UG (aV hd rfl) h) hS (fun QS ayz hS=>nL hS hQ))))))
     ·refine zL 1 (zK (zF (zS (sB 44 hS (fun hS=>?_) (fun hS=>?_)))))
      ·exact zL 1 (zK (zT (a_ (zL 1 (mH 46 (fun _ h=>UH (aV hd rfl) h) hS (fun MP aef hS=>nL hS hQ))))))
      ·refine zL 1 (zK (zF (aC (zS (sB 48 hS (fun hS=>?_) (fun hS=>?_))))))
       ·exact jL (zR hd hQ hS)
       ·refine zL 1 (zK (zF (a_ (sB 49 hS (fun hS=>?_) (fun hS=>?_)))))
        ·exact zL 1 (zK (zR hd hQ hS _ (by kernel_rfl)))
        ·exact jL (zR hd hQ hS)
/- farwriter/args.Get -/
def awJ(r:Int)(e:PX)(st:St):Prop:=aU ac_ 0 ((dI r),[]) e st
def f226(a1:List Int)(a2 a3:Int):Option (Int):=(bif (decide (a2<0)) then (some a3) else (bif (decide ((a1.length:Int)≤a2)) then (some a3) else ((idx a1 a2).bind fun z3=>(bif (decide (z3=(-1))) then (some a3) else ((idx a1 a2).bind fun z4=>(some z4))))))
theorem UL{d:Nat}(hd:1≤d){a1:List Int}{a2 a3 r:Int}(hS:f226 a1 a2 a3=some r):bZ ay aX d 226 [(dL a1),(dI a2),(dI a3)] []=some ((dI r),[]):=by
 refine cI hd (fun Q hQ=>?_) agw
 unfold f226 at hS
 show ZR _ Q ac9 [] _
 replace hQ:FQ (awJ r) Q:=hQ
 refine zS (zL 1 (zK (aC (zS (zL 1 (sB 8 hS (fun hS=>?_) (fun hS=>?_)))))))
 ·exact nL hS hQ
 ·refine zL 4 (sB 13 hS (fun hS=>?_) (fun hS=>?_))
  ·exact nL hS hQ
  ·refine zL 4 (aq hS (fun z3 hz3 hS=>zG (v:=(.cD (eI.enc z3++(eI.cells (a1.drop ((a2:Int).toNat+1)))))) (aD:= []) (some 18) 15 false (.jc 3 1 (tm 16) (tm 17)) (eY eI (kk:= .i64) (xs:=a1) (j:=a2) (by kernel_rfl) (by kernel_rfl) hz3 rfl (by intro h;cases h)) (zL 1 (sB 20 hS (fun hS=>?_) (fun hS=>?_)))))
   ·exact nL hS hQ
   ·exact zL 1 (zK (zF (fV (cq (zS (zL 2 (aq hS (fun z4 iZ hS=>zO (v:=(.cD (eI.enc z4++(eI.cells (a1.drop ((a2:Int).toNat+1)))))) (aD:= []) (some 25) (.jc 3 1 (tm 23) (tm 24)) (eY eI (kk:= .i64) (xs:=a1) (j:=a2) (by kernel_rfl) (by kernel_rfl) iZ rfl (by intro h;cases h)) (nL hS hQ)))))))))
/- farwriter/screen.positive -/
def awK(r:Int)(e:PX)(st:St):Prop:=aU adb 0 ((dI r),[]) e st
def f225(a1:List Int)(a2:Int):Option (Int):=((f226 a1 a2 1).bind fun z2=>(some (if 1>z2 then 1 else z2)))
theorem UM{d:Nat}(hd:2≤d){a1:List Int}{a2 r:Int}(hS:f225 a1 a2=some r):bZ ay aX d 225 [(dL a1),(dI a2)] []=some ((dI r),[]):=by
 refine cI hd (fun Q hQ=>?_) agv
 unfold f225 at hS
 show ZR _ Q ada [] _
 replace hQ:FQ (awK r) Q:=hQ
 exact zS (zL 1 (zK (zS (zL 2 (aq hS (fun z2 hz2 hS=>zC 7 (UL (aV hd rfl) hz2) (nL hS hQ)))))))
/- (*farwriter/screen.terminal).up -/
def ES(r:ag)(e:PX)(st:St):Prop:=aU adh 4 ((.bH []),[(ek r),(aH r.af),(aJ r.af),(aN r.af),.box []]) e st
def YN(a1:Int)(a2:ag)(lU lT:Int):St:=⟨(up (up (up (up u0 5 (dI lT)) 4 (dI lU)) 1 (dI a1)) 0 (pt 0)),(up (aag a2.af) 0 ⟨0,some (ek a2)⟩)⟩
def zU(a1:Int)(a2:ag)(lU lT:Int):Option (ag):=((f237 (IntKind.i64.wrap (a2.af.Row-a1)) lU lT).bind fun z2=>(some (ag.mk ({a2.af with Row:=z2,eK:=false}) a2.sent)))
theorem G9(hd:2≤d){a1:Int}{a2 r:ag}(hQ:FQ (ES r) Q){lU lT:Int}(hS:zU a1 a2 lU lT=some r): ∀st,au [0,1,4,5] [(0,.id 0),(1,.id 1),(2,.id 2),(3,.id 3)] [] st=YN a1 a2 lU lT→ZX d Q Qh [] st:=by
 intro st he
 refine av he ?_
 unfold zU at hS
 exact zS (zL 10 (aq hS (fun z2 hz2 hS=>zC 64 (EI (aV hd rfl) hz2) (nL hS hQ))))
def YO(a1:Int)(a2:ag)(CX:Int):St:=⟨(up (up (up (up u0 5 (dI (IntKind.i64.wrap (a2.af.aG.bW-1)))) 4 (dI CX)) 1 (dI a1)) 0 (pt 0)),(up (aag a2.af) 0 ⟨0,some (ek a2)⟩)⟩
def zV(a1:Int)(a2:ag)(CX:Int):Option (ag):=(zU a1 a2 CX (IntKind.i64.wrap (a2.af.aG.bW-1)))
theorem G_(hd:2≤d){a1:Int}{a2 r:ag}(hQ:FQ (ES r) Q){CX:Int}(hS:zV a1 a2 CX=some r): ∀st,au [0,1,4,5] [(0,.id 0),(1,.id 1),(2,.id 2),(3,.id 3)] [] st=YO a1 a2 CX→ZX d Q adf [.seq Qh] st:=by
 intro st he
 refine av he ?_
 unfold zV at hS
 exact jR (G9 hd hQ hS)
def YP(a1:Int)(a2:ag)(ig:Int):St:=⟨(up (up (up (up u0 5 (dI (IntKind.i64.wrap (a2.af.aG.bW-1)))) 4 (dI ig)) 1 (dI a1)) 0 (pt 0)),(up (aag a2.af) 0 ⟨0,some (ek a2)⟩)⟩
def zW(a1:Int)(a2:ag)(ig:Int):Option (ag):=(bif (decide (a1<0)) then (bif (decide (a2.af.Row<a2.af.cT)) then (zU a1 a2 ig (IntKind.i64.wrap (a2.af.cT-1))) else (zV a1 a2 ig)) else (zV a1 a2 ig))
theorem He(hd:2≤d){a1:Int}{a2 r:ag}(hQ:FQ (ES r) Q){ig:Int}(hS:zW a1 a2 ig=some r): ∀st,au [0,1,4,5] [(0,.id 0),(1,.id 1),(2,.id 2),(3,.id 3)] [] st=YP a1 a2 ig→ZX d Q Qi [] st:=by
 intro st he
 refine av he ?_
 unfold zW at hS
 refine aC (aC (cG (cy 1 (JY 34 none (.tH .lss (tm 33) (ki 0)) hS (fun hS=>?_) (fun hS=>?_)))))
 ·refine cy 11 (JY 46 (some (35,true)) (.tH .lss (tm 40) (tm 45)) hS (fun hS=>?_) (fun hS=>?_))
  ·exact cy 1 (fG (cq (zT (a_ (zL 7 (zK (G9 hd hQ hS _ (by kernel_rfl))))))))
  ·exact cy 1 (fG (cq (zF (G_ hd hQ hS _ (by kernel_rfl)))))
 ·exact cy 13 (fG (jK (G_ hd hQ hS)))
def YQ(a1:Int)(a2:ag):St:=⟨(up (up (up (up u0 5 (dI (IntKind.i64.wrap (a2.af.aG.bW-1)))) 4 (dI 0)) 1 (dI a1)) 0 (pt 0)),(up (aag a2.af) 0 ⟨0,some (ek a2)⟩)⟩
def zX(a1:Int)(a2:ag):Option (ag):=(zW a1 a2 0)
theorem Hf(hd:2≤d){a1:Int}{a2 r:ag}(hQ:FQ (ES r) Q)(hS:zX a1 a2=some r): ∀st,au [0,1,4,5] [(0,.id 0),(1,.id 1),(2,.id 2),(3,.id 3)] [] st=YQ a1 a2→ZX d Q ade [.seq Qi] st:=by
 intro st he
 refine av he ?_
 unfold zX at hS
 exact jR (He hd hQ hS)
def f243(a1:Int)(a2:ag):Option (ag):=(bif (decide (0<a1)) then (bif (decide (a2.af.ji≤a2.af.Row)) then (zW a1 a2 a2.af.ji) else (zX a1 a2)) else (zX a1 a2))
theorem ET{d:Nat}(hd:2≤d){a1:Int}{a2 r:ag}(hS:f243 a1 a2=some r):bZ ay aX d 243 [(pt 0),(dI a1)] [(ek a2),(aH a2.af),(aJ a2.af),(aN a2.af)]=some ((.bH []),[(ek r),(aH r.af),(aJ r.af),(aN r.af),.box []]):=by
 refine cI hd (fun Q hQ=>?_) agI
 unfold f243 at hS
 show ZR _ Q adg [] _
 replace hQ:FQ (ES r) Q:=hQ
 refine aC (cG (cy 9 (fG (cq (aC (aC (cG (cy 1 (JY 14 none (.tH .gtr (tm 13) (ki 0)) hS (fun hS=>?_) (fun hS=>?_))))))))))
 ·refine cy 11 (JY 26 (some (15,true)) (.tH .geq (tm 20) (tm 25)) hS (fun hS=>?_) (fun hS=>?_))
  ·exact cy 1 (fG (cq (zT (a_ (zL 6 (zK (He hd hQ hS _ (by kernel_rfl))))))))
  ·exact cy 1 (fG (cq (zF (Hf hd hQ hS _ (by kernel_rfl)))))
 ·exact cy 13 (fG (jK (Hf hd hQ hS)))
/- (*farwriter/screen.terminal).move -/
def awL(r:ag)(e:PX)(st:St):Prop:=aU adj 4 ((.bH []),[(ek r),(aH r.af),(aJ r.af),(aN r.af),.box []]) e st
def f244(a1 a2:Int)(a3:ag):Option (ag):=((f214 a3 [] 2).bind fun z8=>(bif z8 then ((f237 (IntKind.i64.wrap (a1+a3.af.ji)) a3.af.ji (IntKind.i64.wrap (a3.af.cT-1))).bind fun z9=>((f212 a2 (ag.mk ({a3.af with Row:=z9}) a3.sent)).bind fun dh=>((bU (decide (dh.af.bn.length=a3.af.bn.length))).bind fun cM=>((bU (decide (dh.af.aT.Cells.length=a3.af.aT.Cells.length))).bind fun z12=>((bU (decide (dh.af.aG.Cells.length=a3.af.aG.Cells.length))).bind fun dX=>(some dh)))))) else ((f237 a1 0 (IntKind.i64.wrap (a3.af.aG.bW-1))).bind fun dR=>((f212 a2 (ag.mk ({a3.af with Row:=dR}) a3.sent)).bind fun eZ=>((bU (decide (eZ.af.bn.length=a3.af.bn.length))).bind fun dx=>((bU (decide (eZ.af.aT.Cells.length=a3.af.aT.Cells.length))).bind fun f_=>((bU (decide (eZ.af.aG.Cells.length=a3.af.aG.Cells.length))).bind fun gb=>(some eZ))))))))
theorem UN{d:Nat}(hd:3≤d){a1 a2:Int}{a3 r:ag}(hS:f244 a1 a2 a3=some r):bZ ay aX d 244 [(pt 0),(dI a1),(dI a2)] [(ek a3),(aH a3.af),(aJ a3.af),(aN a3.af)]=some ((.bH []),[(ek r),(aH r.af),(aJ r.af),(aN r.af),.box []]):=by
 refine cI hd (fun Q hQ=>?_) agJ
 unfold f244 at hS
 show ZR _ Q adi [] _
 replace hQ:FQ (awL r) Q:=hQ
 refine aC (zS (zL 1 (aq hS (fun z8 iW hS=>zC 7 (sX (aV hd rfl) iW) (zK (sR 7 hS (fun hS=>?_) (fun hS=>?_)))))))
 ·exact zT (cG (cy 19 (aq hS (fun z9 jF hS=>di (some 27) none (.call 237 [(tm 15),(tm 20),(tm 26)]) (b_ (EI (aV hd rfl) jF)) (cy 4 (fG (cq (a_ (zL 2 (mH 46 (fun _ h=>gT (aV hd rfl) h) hS (fun dh iT hS=>nL hS hQ)))))))))))
 ·exact zF (a_ (zL 9 (aq hS (fun dR kz hS=>zC 40 (EI (aV hd rfl) kz) (zL 4 (zK (a_ (zL 2 (mH 46 (fun _ h=>gT (aV hd rfl) h) hS (fun eZ lG hS=>nL hS hQ))))))))))
/- farwriter/tabs.Back -/
def OW(oX nu:Int):St:=⟨(up (up u0 7 (dI nu)) 6 (dI oX)),h0⟩
theorem ah6{oX nu:Int}:cN (OW oX nu) 0 Kf.res=some ((.bH [(dI oX),(dI nu)]),[]):=by
 kernel_rfl
def aeo(r:Int×Int)(e:PX)(st:St):Prop:=aU Kf 0 ((.bH [(dI r.1),(dI r.2)]),[]) e st
def YR(a1:bu)(a2 a3:Int)(x:Int×Int):St:=⟨(up (up (up (up u0 8 (dI x.2)) 3 (pt 32)) 2 (dI x.1)) 1 (dI a2)),(up h0 32 ⟨0,some (.box (((cu .u64).row 4 a1.Bits)++ []))⟩)⟩
def s9(a1:bu)(a2 a3:Int)(x:Int×Int)(st:St):Prop:=au [1,2,3,8] [(32,.id 32)] [] st=YR a1 a2 a3 x
def Cn(a1:bu)(a2 a3:Int):St:=⟨(up u0 1 (dI a2)),h0⟩
def xF(a1:bu)(a2 a3:Int)(z:Unit⊕(Int×Int))(e:PX)(st:St):Prop:=(match z with | .inl z=>e= .exit 0∧st=Cn a1 a2 a3 | .inr z=>e= .ret∧dV Kf.fin st=OW z.1 z.2)
def M4(a1:bu)(a2 a3:Int)(en gA:Int):St:=⟨(up (up (up (up u0 8 (dI gA)) 3 (pt 32)) 2 (dI en)) 1 (dI a2)),(up h0 32 ⟨0,some (.box (((cu .u64).row 4 a1.Bits)++ []))⟩)⟩
def uq(a1:bu)(a2 a3:Int)(en gA:Int):Option ((Int×Int)⊕(Unit⊕(Int×Int))):=((f242 a1 gA).bind fun z4=>(bif z4 then (bif (decide ((IntKind.i64.wrap (en-1))=0)) then (some (.inr (.inr (gA,0)))) else (some (.inl ((IntKind.i64.wrap (en-1)),gA)))) else (some (.inl (en,gA)))))
theorem Lj(hd:2≤d){a1:bu}{a2 a3:Int}{r:(Int×Int)⊕(Unit⊕(Int×Int))}(hQ:FQ (bG (s9 a1 a2 a3) (xF a1 a2 a3) r) Q){en gA:Int}(hS:uq a1 a2 a3 en gA=some r): ∀st,au [1,2,3,8] [(32,.id 32)] [] st=M4 a1 a2 a3 en gA→ZX d Q adk [.blk 1] st:=by
 intro st he
 refine av he ?_
 unfold uq at hS
 refine zS (zL 2 (aq hS (fun z4 iZ hS=>zC 32 (UB (aV hd rfl) iZ) (zK (sR 32 hS (fun hS=>?_) (fun hS=>?_))))))
 ·refine zT (zS (zL 3 (zK (zS (zL 1 (sB 36 hS (fun hS=>?_) (fun hS=>?_)))))))
  ·exact zK (zT (zS (zL 3 (zK (cL (cj (bg (mG hS hQ))))))))
  ·exact lL hS hQ
 ·exact lR hS hQ
def M5(a1:bu)(a2 a3:Int)(nv gU:Int):St:=⟨(up (up (up (up u0 8 (dI gU)) 3 (pt 32)) 2 (dI nv)) 1 (dI a2)),(up h0 32 ⟨0,some (.box (((cu .u64).row 4 a1.Bits)++ []))⟩)⟩
def uu(a1:bu)(a2 a3:Int)(nv gU:Int):Option ((Int×Int)⊕(Unit⊕(Int×Int))):=(bif (decide ((IntKind.i64.wrap (gU-1))<0)) then (some (.inr (.inr (0,0)))) else (uq a1 a2 a3 nv (IntKind.i64.wrap (gU-1))))
theorem Lk(hd:2≤d){a1:bu}{a2 a3:Int}{r:(Int×Int)⊕(Unit⊕(Int×Int))}(hQ:FQ (bG (s9 a1 a2 a3) (xF a1 a2 a3) r) Q){nv gU:Int}(hS:uu a1 a2 a3 nv gU=some r): ∀st,au [1,2,3,8] [(32,.id 32)] [] st=M5 a1 a2 a3 nv gU→ZX d Q adl [] st:=by
 intro st he
 refine av he ?_
 unfold uu at hS
 refine bw (aC (zS (zL 3 (zK (zS (zL 1 (sB 29 hS (fun hS=>?_) (fun hS=>?_))))))))
 ·exact zK (zT (zS (zL 2 (zK (cL (bQ (cj (bg (mG hS hQ)))))))))
 ·exact jL (Lj hd hQ hS)
def zY(a1:bu)(a2 a3:Int)(x:Int×Int):Option ((Int×Int)⊕(Unit⊕(Int×Int))):=(bif (decide (0<x.1)) then (uu a1 a2 a3 x.1 x.2) else (some (.inr (.inl ()))))
theorem UO(hd:2≤d){a1:bu}{a2 a3:Int}{r:(Int×Int)⊕(Unit⊕(Int×Int))}(hQ:FQ (bG (s9 a1 a2 a3) (xF a1 a2 a3) r) Q){x:Int×Int}(hS:zY a1 a2 a3 x=some r)(he:s9 a1 a2 a3 x st):ZX d Q adm [] st:=by
 refine av he ?_
 unfold zY at hS
 refine aC (zS (zL 1 (sB 25 hS (fun hS=>?_) (fun hS=>?_))))
 ·exact jL (Lk hd hQ hS)
 ·exact zK (zF (av (J:=Cn a1 a2 a3) (by kernel_rfl) (cX (cV (bg (jw hS hQ))))))
def YS(a1:bu)(a2 a3:Int):St:=⟨(up (up (up u0 3 (pt 32)) 2 (dI a3)) 1 (dI a2)),(up h0 32 ⟨0,some (.box (((cu .u64).row 4 a1.Bits)++ []))⟩)⟩
def EU(a1:bu)(a2 a3:Int):Option (Int×Int):=((b9 (zY a1 a2 a3) (a3,a2)).bind fun z5=>(Sum.elim (fun z6=>(some (a2,0))) (fun z7=>(some (z7.1,z7.2))) z5))
theorem UQ(hd:2≤d){a1:bu}{a2 a3:Int}{r:Int×Int}(hQ:FQ (aeo r) Q)(hS:EU a1 a2 a3=some r): ∀st,au [1,2,3] [(32,.id 32)] [] st=YS a1 a2 a3→ZX d Q adn [] st:=by
 intro st he
 refine av he ?_
 unfold EU at hS
 refine aC (zS (zL 2 (zK (bw (aq hS (fun z5 jQ hS=>dF (s9 a1 a2 a3) (xF a1 a2 a3) (fun x st r Q h0 hS hQ=>UO hd hQ hS h0) (x:=(a3,a2)) (z:=z5) (by show au _ _ _ _=_;kernel_rfl) jQ ?_))))))
 rcases z5 with z6 | z7
 ·replace hS:=(show _=_ from hS)
  simp only [tD] at hS
  intro e bl _ hX
  obtain ⟨rfl,rfl⟩:_∧_:=hX
  exact nK hS hQ
 ·simp only [tE] at hS
  intro e bl _ hX
  obtain ⟨rfl,hX⟩:_∧_:=hX
  exact cj (bQ (bg (dW hS hQ (je (by kernel_rfl) ((congrArg (fun s=>cN s 0 Kf.res) hX).trans ah6)))))
def f245(a1:bu)(a2 a3:Int):Option (Int×Int):=(bif (decide (a2<0)) then (some (0,1)) else (bif (decide (255<a2)) then (some (0,1)) else (bif (decide (a3<0)) then (some (0,1)) else (bif (decide (16383<a3)) then (some (0,1)) else (EU a1 a2 a3)))))
theorem aqy{d:Nat}(hd:2≤d){a1:bu}{a2 a3:Int}{r:Int×Int}(hS:f245 a1 a2 a3=some r):bZ ay aX d 245 [(.agg (((cu .u64).row 4 a1.Bits)++ [])),(dI a2),(dI a3)] []=some ((.bH [(dI r.1),(dI r.2)]),[]):=by
 refine cI hd (fun Q hQ=>?_) agK
 unfold f245 at hS
 show ZR _ Q ado [] _
 replace hQ:FQ (aeo r) Q:=hQ
 refine zS (zL 3 (zK (aC (zS (zL 1 (sB 10 hS (fun hS=>?_) (fun hS=>?_)))))))
 ·exact nL hS hQ
 ·refine zL 2 (sB 13 hS (fun hS=>?_) (fun hS=>?_))
  ·exact nL hS hQ
  ·refine zL 3 (sB 17 hS (fun hS=>?_) (fun hS=>?_))
   ·exact nL hS hQ
   ·refine zL 3 (sB 21 hS (fun hS=>?_) (fun hS=>?_))
    ·exact nL hS hQ
    ·exact jL (UQ hd hQ hS)
/- (*farwriter/screen.terminal).cursor -/
def Rk(r:ag×Bool)(e:PX)(st:St):Prop:=aU ads 4 ((dB r.2),[(ek r.1),(aH r.1.af),(aJ r.1.af),(aN r.1.af),.box []]) e st
def YT(a1:aM)(a2:Int)(a3:ag)(FV:Bool):St:=⟨(up (up (up (up (up u0 79 (dB FV)) 12 (dI a1.Code)) 4 (pt 40)) 2 (dI a2)) 0 (pt 0)),(up (up (up (up (up h0 40 ⟨0,some (.box (J4 a1 (dL a1.Args)))⟩) 3 ⟨0,some (aN a3.af)⟩) 2 ⟨0,some (aJ a3.af)⟩) 1 ⟨0,some (aH a3.af)⟩) 0 ⟨0,some (ek a3)⟩)⟩
def vS(a1:aM)(a2:Int)(a3:ag)(FV:Bool):Option (ag×Bool):=(bif FV then ((f225 a1.Args 1).bind fun ayR=>((f244 (IntKind.i64.wrap (a2-1)) (IntKind.i64.wrap (ayR-1)) a3).bind fun z105=>((bU (decide (z105.af.bn.length=a3.af.bn.length))).bind fun aGB=>((bU (decide (z105.af.aT.Cells.length=a3.af.aT.Cells.length))).bind fun z107=>((bU (decide (z105.af.aG.Cells.length=a3.af.aG.Cells.length))).bind fun aGC=>(some (z105,true))))))) else (bif (decide (a1.Code=73)) then ((f218 a3.af.eU a3.af.cP a2 a3.af.aG.bR).bind fun z109=>((f212 z109.1 a3).bind fun UR=>((bU (decide (UR.af.bn.length=a3.af.bn.length))).bind fun aGD=>((bU (decide (UR.af.aT.Cells.length=a3.af.aT.Cells.length))).bind fun aGE=>((bU (decide (UR.af.aG.Cells.length=a3.af.aG.Cells.length))).bind fun aGF=>(some (UR,true))))))) else (bif (decide (a1.Code=90)) then ((f245 a3.af.eU a3.af.cP a2).bind fun ayS=>((f212 ayS.1 a3).bind fun UT=>((bU (decide (UT.af.bn.length=a3.af.bn.length))).bind fun z116=>((bU (decide (UT.af.aT.Cells.length=a3.af.aT.Cells.length))).bind fun z117=>((bU (decide (UT.af.aG.Cells.length=a3.af.aG.Cells.length))).bind fun aGG=>(some (UT,true))))))) else (bif (decide (a1.Code=115)) then ((f221 a3).bind fun z119=>((bU (decide (z119.af.bn.length=a3.af.bn.length))).bind fun aGH=>((bU (decide (z119.af.aT.Cells.length=a3.af.aT.Cells.length))).bind fun aGI=>((bU (decide (z119.af.aG.Cells.length=a3.af.aG.Cells.length))).bind fun aGJ=>(some (z119,true)))))) else (bif (decide (a1.Code=117)) then ((f222 a3).bind fun UU=>((bU (decide (UU.af.bn.length=a3.af.bn.length))).bind fun z124=>((bU (decide (UU.af.aT.Cells.length=a3.af.aT.Cells.length))).bind fun aGK=>((bU (decide (UU.af.aG.Cells.length=a3.af.aG.Cells.length))).bind fun aGL=>(some (UU,true)))))) else (some (a3,false)))))))
theorem zZ(hd:4≤d){a1:aM}{a2:Int}{a3:ag}{r:ag×Bool}(hQ:FQ (Rk r) Q){FV:Bool}(hS:vS a1 a2 a3 FV=some r): ∀st,au [0,2,4,12,79] [(0,.id 0),(1,.id 1),(2,.id 2),(3,.id 3),(40,.id 40)] [] st=YT a1 a2 a3 FV→ZX d Q adp [.blk 0,.seq Qj] st:=by
 intro st he
 refine av he ?_
 unfold vS at hS
 refine sR 79 hS (fun hS=>?_) (fun hS=>?_)
 ·exact zT (a_ (zL 5 (aq hS (fun ayR aAV hS=>zC 87 (UM (aV hd rfl) aAV) (zL 1 (mH 89 (fun _ h=>UN (aV hd rfl) h) hS (fun z105 aF6 hS=>nL hS hQ)))))))
 ·refine zF (zS (sB 91 hS (fun hS=>?_) (fun hS=>?_)))
  ·exact zL 1 (zK (zT (aC (cG (cy 17 (aq hS (fun z109 aAW hS=>di (some 110) none (.call 218 [(tm 97),(tm 102),(tm 103),(tm 109)]) (b_ (UE (aV hd rfl) aAW)) (cy 5 (fG (cq (a_ (zL 2 (mH 115 (fun _ h=>gT (aV hd rfl) h) hS (fun UR aF7 hS=>nL hS hQ))))))))))))))
  ·refine zL 1 (zK (zF (zS (sB 117 hS (fun hS=>?_) (fun hS=>?_)))))
   ·exact zL 1 (zK (zT (aC (cG (cy 11 (aq hS (fun ayS aAX hS=>di (some 130) none (.call 245 [(tm 123),(tm 128),(tm 129)]) (b_ (aqy (aV hd rfl) aAX)) (cy 5 (fG (cq (a_ (zL 2 (mH 135 (fun _ h=>gT (aV hd rfl) h) hS (fun UT aF8 hS=>nL hS hQ))))))))))))))
   ·refine zL 1 (zK (zF (zS (sB 137 hS (fun hS=>?_) (fun hS=>?_)))))
    ·exact zL 1 (zK (zT (a_ (zL 1 (mH 139 (fun _ h=>UG (aV hd rfl) h) hS (fun z119 aF9 hS=>nL hS hQ))))))
    ·refine zL 1 (zK (zF (zS (sB 141 hS (fun hS=>?_) (fun hS=>?_)))))
     ·exact zL 1 (zK (zT (a_ (zL 1 (mH 143 (fun _ h=>UH (aV hd rfl) h) hS (fun UU aF_ hS=>nL hS hQ))))))
     ·exact nL hS hQ
def YU(a1:aM)(a2:Int)(a3:ag)(ld:Bool):St:=⟨(up (up (up (up (up u0 61 (dB ld)) 12 (dI a1.Code)) 4 (pt 40)) 2 (dI a2)) 0 (pt 0)),(up (up (up (up (up h0 40 ⟨0,some (.box (J4 a1 (dL a1.Args)))⟩) 3 ⟨0,some (aN a3.af)⟩) 2 ⟨0,some (aJ a3.af)⟩) 1 ⟨0,some (aH a3.af)⟩) 0 ⟨0,some (ek a3)⟩)⟩
def vT(a1:aM)(a2:Int)(a3:ag)(ld:Bool):Option (ag×Bool):=(bif ld then ((f212 (IntKind.i64.wrap (a2-1)) a3).bind fun z96=>((bU (decide (z96.af.bn.length=a3.af.bn.length))).bind fun z97=>((bU (decide (z96.af.aT.Cells.length=a3.af.aT.Cells.length))).bind fun z98=>((bU (decide (z96.af.aG.Cells.length=a3.af.aG.Cells.length))).bind fun z99=>(some (z96,true)))))) else (bif (decide (a1.Code=100)) then ((f244 (IntKind.i64.wrap (a2-1)) a3.af.cP a3).bind fun UW=>((bU (decide (UW.af.bn.length=a3.af.bn.length))).bind fun aGM=>((bU (decide (UW.af.aT.Cells.length=a3.af.aT.Cells.length))).bind fun aGN=>((bU (decide (UW.af.aG.Cells.length=a3.af.aG.Cells.length))).bind fun aGO=>(some (UW,true)))))) else (bif (decide (a1.Code=72)) then (vS a1 a2 a3 true) else (bif (decide (a1.Code=102)) then (vS a1 a2 a3 true) else (vS a1 a2 a3 false)))))
theorem z_(hd:4≤d){a1:aM}{a2:Int}{a3:ag}{r:ag×Bool}(hQ:FQ (Rk r) Q){ld:Bool}(hS:vT a1 a2 a3 ld=some r): ∀st,au [0,2,4,12,61] [(0,.id 0),(1,.id 1),(2,.id 2),(3,.id 3),(40,.id 40)] [] st=YU a1 a2 a3 ld→ZX d Q adq [.blk 0,.seq Qj] st:=by
 intro st he
 refine av he ?_
 unfold vT at hS
 refine sR 61 hS (fun hS=>?_) (fun hS=>?_)
 ·exact zT (a_ (zL 3 (mH 67 (fun _ h=>gT (aV hd rfl) h) hS (fun z96 aGP hS=>nL hS hQ))))
 ·refine zF (zS (sB 69 hS (fun hS=>?_) (fun hS=>?_)))
  ·exact zL 1 (zK (zT (a_ (zL 8 (mH 78 (fun _ h=>UN (aV hd rfl) h) hS (fun UW aGa hS=>nL hS hQ))))))
  ·refine zL 1 (zK (zF (aC (zS (sB 80 hS (fun hS=>?_) (fun hS=>?_))))))
   ·exact jL (zZ hd hQ hS)
   ·refine zL 1 (zK (zF (a_ (sB 81 hS (fun hS=>?_) (fun hS=>?_)))))
    ·exact zL 1 (zK (zZ hd hQ hS _ (by kernel_rfl)))
    ·exact jL (zZ hd hQ hS)
def f227(a1:aM)(a2:Int)(a3:ag):Option (ag×Bool):=(bif (decide (a1.Code=65)) then ((f243 a2 a3).bind fun z64=>((bU (decide (z64.af.bn.length=a3.af.bn.length))).bind fun zf=>((bU (decide (z64.af.aT.Cells.length=a3.af.aT.Cells.length))).bind fun z66=>((bU (decide (z64.af.aG.Cells.length=a3.af.aG.Cells.length))).bind fun z67=>(some (z64,true)))))) else (bif (decide (a1.Code=66)) then ((f243 (IntKind.i64.wrap (0-a2)) a3).bind fun qD=>((bU (decide (qD.af.bn.length=a3.af.bn.length))).bind fun HY=>((bU (decide (qD.af.aT.Cells.length=a3.af.aT.Cells.length))).bind fun z70=>((bU (decide (qD.af.aG.Cells.length=a3.af.aG.Cells.length))).bind fun XB=>(some (qD,true)))))) else (bif (decide (a1.Code=67)) then ((f212 (IntKind.i64.wrap (a3.af.cP+a2)) a3).bind fun z72=>((bU (decide (z72.af.bn.length=a3.af.bn.length))).bind fun TM=>((bU (decide (z72.af.aT.Cells.length=a3.af.aT.Cells.length))).bind fun XC=>((bU (decide (z72.af.aG.Cells.length=a3.af.aG.Cells.length))).bind fun z75=>(some (z72,true)))))) else (bif (decide (a1.Code=68)) then ((f212 (IntKind.i64.wrap (a3.af.cP-a2)) a3).bind fun z76=>((bU (decide (z76.af.bn.length=a3.af.bn.length))).bind fun TN=>((bU (decide (z76.af.aT.Cells.length=a3.af.aT.Cells.length))).bind fun TP=>((bU (decide (z76.af.aG.Cells.length=a3.af.aG.Cells.length))).bind fun z79=>(some (z76,true)))))) else (bif (decide (a1.Code=69)) then ((f243 (IntKind.i64.wrap (0-a2)) a3).bind fun z80=>((bU (decide (z80.af.bn.length=a3.af.bn.length))).bind fun z81=>((bU (decide (z80.af.aT.Cells.length=a3.af.aT.Cells.length))).bind fun z82=>((bU (decide (z80.af.aG.Cells.length=a3.af.aG.Cells.length))).bind fun z83=>((f212 0 z80).bind fun z84=>((bU (decide (z84.af.bn.length=z80.af.bn.length))).bind fun z85=>((bU (decide (z84.af.aT.Cells.length=z80.af.aT.Cells.length))).bind fun z86=>((bU (decide (z84.af.aG.Cells.length=z80.af.aG.Cells.length))).bind fun z87=>(some (z84,true)))))))))) else (bif (decide (a1.Code=70)) then ((f243 a2 a3).bind fun UX=>((bU (decide (UX.af.bn.length=a3.af.bn.length))).bind fun z89=>((bU (decide (UX.af.aT.Cells.length=a3.af.aT.Cells.length))).bind fun z90=>((bU (decide (UX.af.aG.Cells.length=a3.af.aG.Cells.length))).bind fun z91=>((f212 0 UX).bind fun z92=>((bU (decide (z92.af.bn.length=UX.af.bn.length))).bind fun z93=>((bU (decide (z92.af.aT.Cells.length=UX.af.aT.Cells.length))).bind fun z94=>((bU (decide (z92.af.aG.Cells.length=UX.af.aG.Cells.length))).bind fun z95=>(some (z92,true)))))))))) else (bif (decide (a1.Code=71)) then (vT a1 a2 a3 true) else (bif (decide (a1.Code=96)) then (vT a1 a2 a3 true) else (vT a1 a2 a3 false)))))))))
theorem aqC{d:Nat}(hd:4≤d){a1:aM}{a2:Int}{a3:ag}{r:ag×Bool}(hS:f227 a1 a2 a3=some r):bZ ay aX d 227 [(pt 0),(N1 a1),(dI a2)] [(ek a3),(aH a3.af),(aJ a3.af),(aN a3.af)]=some ((dB r.2),[(ek r.1),(aH r.1.af),(aJ r.1.af),(aN r.1.af),.box []]):=by
 refine cI hd (fun Q hQ=>?_) agx
 unfold f227 at hS
 show ZR _ Q adr [] _
 replace hQ:FQ (Rk r) Q:=hQ
 refine zS (zL 2 (zK (aC (zS (zL 2 (zK (bw (zS (sB 14 hS (fun hS=>?_) (fun hS=>?_))))))))))
 ·exact zL 1 (zK (zT (a_ (zL 2 (mH 17 (fun _ h=>ET (aV hd rfl) h) hS (fun z64 aeb hS=>nL hS hQ))))))
 ·refine zL 1 (zK (zF (zS (sB 19 hS (fun hS=>?_) (fun hS=>?_)))))
  ·exact zL 1 (zK (zT (a_ (zL 3 (mH 23 (fun _ h=>ET (aV hd rfl) h) hS (fun qD Om hS=>nL hS hQ))))))
  ·refine zL 1 (zK (zF (zS (sB 25 hS (fun hS=>?_) (fun hS=>?_)))))
   ·exact zL 1 (zK (zT (a_ (zL 8 (mH 34 (fun _ h=>gT (aV hd rfl) h) hS (fun z72 ad2 hS=>nL hS hQ))))))
   ·refine zL 1 (zK (zF (zS (sB 36 hS (fun hS=>?_) (fun hS=>?_)))))
    ·exact zL 1 (zK (zT (a_ (zL 8 (mH 45 (fun _ h=>gT (aV hd rfl) h) hS (fun z76 aGQ hS=>nL hS hQ))))))
    ·refine zL 1 (zK (zF (zS (sB 47 hS (fun hS=>?_) (fun hS=>?_)))))
     ·exact zL 1 (zK (zT (zS (zL 3 (mH 51 (fun _ h=>ET (aV hd rfl) h) hS (fun z80 aGR hS=>zK (a_ (zL 1 (mH 53 (fun _ h=>gT (aV hd rfl) h) hS (fun z84 aGS hS=>nL hS hQ))))))))))
     ·refine zL 1 (zK (zF (zS (sB 55 hS (fun hS=>?_) (fun hS=>?_)))))
      ·exact zL 1 (zK (zT (zS (zL 2 (mH 58 (fun _ h=>ET (aV hd rfl) h) hS (fun UX aGT hS=>zK (a_ (zL 1 (mH 60 (fun _ h=>gT (aV hd rfl) h) hS (fun z92 aGU hS=>nL hS hQ))))))))))
      ·refine zL 1 (zK (zF (aC (zS (sB 62 hS (fun hS=>?_) (fun hS=>?_))))))
       ·exact jL (z_ hd hQ hS)
       ·refine zL 1 (zK (zF (a_ (sB 63 hS (fun hS=>?_) (fun hS=>?_)))))
        ·exact zL 1 (zK (z_ hd hQ hS _ (by kernel_rfl)))
        ·exact jL (z_ hd hQ hS)
/- (*farwriter/screen.terminal).erase -/
def A9(r:ag×Bool)(e:PX)(st:St):Prop:=aU adz 4 ((dB r.2),[(ek r.1),(aH r.1.af),(aJ r.1.af),(aN r.1.af)]) e st
def Ll(a1 a2 a3:Int)(a4:ag):St:=⟨(up (up (up (up (up (up u0 1000003 .un) 1000002 .un) 1000001 .un) 9 (dI a4.af.aG.bR)) 2 (dI (IntKind.i64.wrap (0-a2)))) 0 (pt 0)),(kN a4)⟩
def EW(a1 a2 a3:Int)(a4:ag):Option (ag×Bool):=((f216 (ag.mk ({a4.af with eK:=false}) a4.sent) []).bind fun z7=>((f215 a4.af.aG.bR a4.af.aG.bW a4.af.Row a4.af.cP a4.af.aG.bR (IntKind.i64.wrap (0-a2)) z7 a4.af.aG.Cells).bind fun z8=>((bU (decide (z8.length=a4.af.aG.Cells.length))).bind fun z9=>(some ((ag.mk ({a4.af with aG:=(bS.mk a4.af.aG.bR a4.af.aG.bW z8),eK:=false}) a4.sent),true)))))
theorem UY(hd:8≤d){a1 a2 a3:Int}{a4:ag}{r:ag×Bool}(hQ:FQ (A9 r) Q)(hS:EW a1 a2 a3 a4=some r): ∀st,au [0,2,9,1000001,1000002,1000003] [(0,.id 0),(1,.id 1),(2,.id 2),(3,.id 3)] [] st=Ll a1 a2 a3 a4→ZX d Q adt [.blk 0,.seq Ax] st:=by
 intro st he
 refine av he ?_
 unfold EW at hS
 refine zS (zL 5 (zK (cG (cy 18 (aq hS (fun z7 kO hS=>di (some 47) none (c1 216 46) (b_ (zn (aV hd rfl) kO)) (aq hS (fun z8 iW hS=>aq hS (fun z9 jF hS=>di (some 48) none (.fU 215 [(tm 33),(tm 38),(tm 43),(tm 44),(tm 45),(tm 47)]) (wJ [1] [(aH a4.af)] (Uz (aV hd rfl) iW) (tL aj (e1:=87) (k1:=4) (xs:=a4.af.aG.Cells) (ys:=z8) (by kernel_rfl) jF qU)) ?_)))))))))
 have lz9:a4.af.aG.Cells.length=z8.length:=(of_decide_eq_true (gZ jF)).symm
 try delta Ll
 try delta uT ek kN nt uU jY l8 lB ku lD lF
 try delta bX
 try rw [lz9]
 exact fG (nK hS hQ)
def Lm(a1 a2 a3:Int)(a4:ag):St:=⟨(up (up (up (up (up u0 1000003 .un) 1000002 .un) 1000001 .un) 2 (dI a2)) 0 (pt 0)),(kN a4)⟩
def EX(a1 a2 a3:Int)(a4:ag):Option (ag×Bool):=((f216 (ag.mk ({a4.af with eK:=false}) a4.sent) []).bind fun dh=>((f239 a4.af.aG.bR a4.af.aG.bW a4.af.ji a4.af.cT a2 dh a4.af.aG.Cells).bind fun cM=>((bU (decide (cM.length=a4.af.aG.Cells.length))).bind fun z12=>(some ((ag.mk ({a4.af with aG:=(bS.mk a4.af.aG.bR a4.af.aG.bW cM),eK:=false}) a4.sent),true)))))
theorem UZ(hd:8≤d){a1 a2 a3:Int}{a4:ag}{r:ag×Bool}(hQ:FQ (A9 r) Q)(hS:EX a1 a2 a3 a4=some r): ∀st,au [0,2,1000001,1000002,1000003] [(0,.id 0),(1,.id 1),(2,.id 2),(3,.id 3)] [] st=Lm a1 a2 a3 a4→ZX d Q adu [.blk 0,.seq Ax] st:=by
 intro st he
 refine av he ?_
 unfold EX at hS
 refine zS (zL 5 (zK (cG (cy 17 (aq hS (fun dh iT hS=>di (some 204) none (c1 216 203) (b_ (zn (aV hd rfl) iT)) (aq hS (fun cM jN hS=>aq hS (fun z12 gG hS=>di (some 205) none (.fU 239 [(tm 191),(tm 196),(tm 201),(tm 202),(tm 204)]) (wJ [1] [(aH a4.af)] (K8 (aV hd rfl) jN) (tL aj (e1:=87) (k1:=4) (xs:=a4.af.aG.Cells) (ys:=cM) (by kernel_rfl) gG qU)) ?_)))))))))
 have aqj:a4.af.aG.Cells.length=cM.length:=(of_decide_eq_true (gZ gG)).symm
 try delta Lm
 try delta uT ek kN nt uU jY l8 lB ku lD lF
 try delta bX
 try rw [aqj]
 exact fG (nK hS hQ)
def YV(a1 a2 a3:Int)(a4:ag)(nM:Bool):St:=⟨(up (up (up (up (up (up (up u0 1000003 .un) 1000002 .un) 1000001 .un) 176 (dB nM)) 2 (dI a2)) 1 (dI a1)) 0 (pt 0)),(kN a4)⟩
def vU(a1 a2 a3:Int)(a4:ag)(nM:Bool):Option (ag×Bool):=(bif nM then (bif (decide (a1=84)) then none else (EX a1 a2 a3 a4)) else (some (a4,false)))
theorem Hg(hd:8≤d){a1 a2 a3:Int}{a4:ag}{r:ag×Bool}(hQ:FQ (A9 r) Q){nM:Bool}(hS:vU a1 a2 a3 a4 nM=some r): ∀st,au [0,1,2,176,1000001,1000002,1000003] [(0,.id 0),(1,.id 1),(2,.id 2),(3,.id 3)] [] st=YV a1 a2 a3 a4 nM→ZX d Q adv [.blk 0,.seq Ax] st:=by
 intro st he
 refine av he ?_
 unfold vU at hS
 refine sR 176 hS (fun hS=>?_) (fun hS=>?_)
 ·refine zT (aC (zS (zL 1 (sB 180 hS (fun hS=>?_) (fun hS=>?_)))))
  ·cases hS
  ·exact jL (UZ hd hQ hS)
 ·exact nR hS hQ
def YW(a1 a2 a3:Int)(a4:ag):St:=⟨(up (up (up (up (up (up (up (up u0 1000003 .un) 1000002 .un) 1000001 .un) 131 (dB false)) 17 (dI a1)) 2 (dI a2)) 1 (dI a1)) 0 (pt 0)),(kN a4)⟩
def Aa(a1 a2 a3:Int)(a4:ag):Option (ag×Bool):=(bif (decide (a1=83)) then (vU a1 a2 a3 a4 true) else (bif (decide (a1=84)) then none else (vU a1 a2 a3 a4 false)))
theorem U0(hd:8≤d){a1 a2 a3:Int}{a4:ag}{r:ag×Bool}(hQ:FQ (A9 r) Q)(hS:Aa a1 a2 a3 a4=some r): ∀st,au [0,1,2,17,131,1000001,1000002,1000003] [(0,.id 0),(1,.id 1),(2,.id 2),(3,.id 3)] [] st=YW a1 a2 a3 a4→ZX d Q adw [.blk 0,.seq Ax] st:=by
 intro st he
 refine av he ?_
 unfold Aa at hS
 refine zF (aC (zS (sB 177 hS (fun hS=>?_) (fun hS=>?_))))
 ·exact jL (Hg hd hQ hS)
 ·refine zL 1 (zK (zF (a_ (sB 178 hS (fun hS=>?_) (fun hS=>?_)))))
  ·cases hS
  ·exact jL (Hg hd hQ hS)
def YX(a1 a2 a3:Int)(a4:ag)(p8:Bool):St:=⟨(up (up (up (up (up (up (up (up (up (up u0 1000003 .un) 1000002 .un) 1000001 .un) 18 (dB p8)) 17 (dI a1)) 9 (dI a4.af.aG.bR)) 3 (dI a3)) 2 (dI a2)) 1 (dI a1)) 0 (pt 0)),(kN a4)⟩
def Ab(a1 a2 a3:Int)(a4:ag)(p8:Bool):Option (ag×Bool):=(bif p8 then (bif (decide (a1=80)) then (EW a1 a2 a3 a4) else none) else (bif (decide (a1=74)) then none else (bif (decide (a1=75)) then none else (bif (decide (a1=88)) then none else (bif (decide (a1=76)) then none else (bif (decide (a1=77)) then none else (Aa a1 a2 a3 a4)))))))
theorem Hh(hd:8≤d){a1 a2 a3:Int}{a4:ag}{r:ag×Bool}(hQ:FQ (A9 r) Q){p8:Bool}(hS:Ab a1 a2 a3 a4 p8=some r): ∀st,au [0,1,2,3,9,17,18,1000001,1000002,1000003] [(0,.id 0),(1,.id 1),(2,.id 2),(3,.id 3)] [] st=YX a1 a2 a3 a4 p8→ZX d Q adx [.blk 0,.seq Ax] st:=by
 intro st he
 refine av he ?_
 unfold Ab at hS
 refine sR 18 hS (fun hS=>?_) (fun hS=>?_)
 ·refine zT (aC (zS (zL 1 (sB 22 hS (fun hS=>?_) (fun hS=>?_)))))
  ·exact zK (zT (a_ (zL 3 (zK (UY hd hQ hS _ (by kernel_rfl))))))
  ·cases hS
 ·refine zF (zS (sB 50 hS (fun hS=>?_) (fun hS=>?_)))
  ·cases hS
  ·refine zL 1 (zK (zF (zS (sB 104 hS (fun hS=>?_) (fun hS=>?_)))))
   ·cases hS
   ·refine zL 1 (zK (zF (zS (sB 109 hS (fun hS=>?_) (fun hS=>?_)))))
    ·cases hS
    ·refine zL 1 (zK (zF (aC (zS (sB 132 hS (fun hS=>?_) (fun hS=>?_))))))
     ·cases hS
     ·refine zL 1 (zK (zF (a_ (sB 133 hS (fun hS=>?_) (fun hS=>?_)))))
      ·cases hS
      ·exact jL (U0 hd hQ hS)
def f228(a1 a2 a3:Int)(a4:ag):Option (ag×Bool):=(bif (decide (a1=64)) then none else (bif (decide (a1=80)) then (Ab a1 a2 a3 a4 true) else (Ab a1 a2 a3 a4 false)))
theorem aqD{d:Nat}(hd:8≤d){a1 a2 a3:Int}{a4:ag}{r:ag×Bool}(hS:f228 a1 a2 a3 a4=some r):bZ ay aX d 228 [(pt 0),(dI a1),(dI a2),(dI a3)] [(ek a4),(aH a4.af),(aJ a4.af),(aN a4.af)]=some ((dB r.2),[(ek r.1),(aH r.1.af),(aJ r.1.af),(aN r.1.af)]):=by
 refine cI hd (fun Q hQ=>?_) agy
 unfold f228 at hS
 show ZR _ Q ady [] _
 replace hQ:FQ (A9 r) Q:=hQ
 refine zS (zL 1 (zK (zS (zL 7 (zK (aC (zS (zL 1 (zK (bw (aC (zS (sB 19 hS (fun hS=>?_) (fun hS=>?_))))))))))))))
 ·cases hS
 ·refine zL 1 (zK (zF (a_ (sB 20 hS (fun hS=>?_) (fun hS=>?_)))))
  ·exact zL 1 (zK (Hh hd hQ hS _ (by kernel_rfl)))
  ·exact jL (Hh hd hQ hS)
end
end Go.Proofs.YtimbfadnabfabaaGreatDoor.Pm
