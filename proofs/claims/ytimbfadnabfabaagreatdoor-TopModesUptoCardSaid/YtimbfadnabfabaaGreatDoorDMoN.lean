/- Typed functions, and that the codes are these. Printed by dec.py. -/
import Derived.Test.YtimbfadnabfabaaGreatDoorDMoM
namespace Go.Proofs.YtimbfadnabfabaaGreatDoor.Pm
noncomputable section
set_option maxRecDepth 1000000
set_option maxHeartbeats 20000000
set_option linter.unusedVariables false
set_option linter.unusedSimpArgs false
variable {d : Nat} {Q : PQ} {st : St}
/- (*farwriter/screen.terminal).other -/
def acJ(r:ag)(e:PX)(st:St):Prop:=aV abT 4 ((.bE []),[(eo r),(aH r.af),(aI r.af),(aM r.af)]) e st
def Yq(a1:aL)(a2 a3:Int)(a4:ag):St:=⟨(up (up (up (up (up (up (up (up (up u0 1000003 .un) 1000002 .un) 1000001 .un) 45 (dB false)) 14 (dI a1.Code)) 5 (pt 48)) 3 (dI a3)) 2 (dI a2)) 0 (pt 0)),(up (up (up (up (up h0 48 ⟨0,some (.box (I_ a1 (dL a1.Args)))⟩) 3 ⟨1,some (aM a4.af)⟩) 2 ⟨1,some (aI a4.af)⟩) 1 ⟨1,some (aH a4.af)⟩) 0 ⟨0,some (lH a4)⟩)⟩
def Kz(a1:aL)(a2 a3:Int)(a4:ag):Option (ag):=(bif (decide (a1.Code=109)) then none else (bif (decide (a1.Code=114)) then none else (bif (decide (a1.Code=110)) then none else (bif (decide (a1.Code=99)) then none else (some a4)))))
theorem Uq(hd:1≤d){a1:aL}{a2 a3:Int}{a4 r:ag}(hQ:FQ (acJ r) Q)(hS:Kz a1 a2 a3 a4=some r): ∀st,au [0,2,3,5,14,45,1000001,1000002,1000003] [(0,.id 0),(1,.id 1),(2,.id 2),(3,.id 3),(48,.id 48)] [] st=Yq a1 a2 a3 a4→ZX d Q abS [.blk 0] st:=by
 intro st he
 refine ay he (zF (zS (sB 72 hS (fun hS=>?_) (fun hS=>?_))))
 ·cases hS
 ·refine zL 1 (zK (zF (zS (sB 92 hS (fun hS=>?_) (fun hS=>?_)))))
  ·cases hS
  ·refine zL 1 (zK (zF (zS (sB 131 hS (fun hS=>?_) (fun hS=>?_)))))
   ·cases hS
   ·refine zL 1 (zK (zF (zS (sB 136 hS (fun hS=>?_) (fun hS=>?_)))))
    ·cases hS
    ·exact nL hS hQ
def f229(a1:aL)(a2 a3:Int)(a4:ag):Option (ag):=(bif (decide (a1.Code=103)) then none else (bif (decide (a1.Code=104)) then none else (bif (decide (a1.Code=108)) then none else (Kz a1 a2 a3 a4))))
theorem anR{d:Nat}(hd:1≤d){a1:aL}{a2 a3:Int}{a4 r:ag}(hS:f229 a1 a2 a3 a4=some r):bW av aX d 229 [(pt 0),(Nd a1),(dI a2),(dI a3)] [(eo a4),(aH a4.af),(aI a4.af),(aM a4.af)]=some ((.bE []),[(eo r),(aH r.af),(aI r.af),(aM r.af)]):=by
 refine cL acJ hd (fun Q hQ=>?_) aeX
 refine zS (zL 1 (zK (zS (zL 2 (zK (bz (zS (sB 16 hS (fun hS=>?_) (fun hS=>?_)))))))))
 ·cases hS
 ·refine zL 1 (zK (zF (aC (zS (sB 46 hS (fun hS=>?_) (fun hS=>?_))))))
  ·cases hS
  ·refine zL 1 (zK (zF (a_ (sB 47 hS (fun hS=>?_) (fun hS=>?_)))))
   ·cases hS
   ·exact jL (Uq hd hQ hS)
/- (*farwriter/screen.terminal).sequence -/
def auR(r:ag)(e:PX)(st:St):Prop:=aV abU 4 ((.bE []),[(eo r),(aH r.af),(aI r.af),(aM r.af)]) e st
def f191(a1:aL)(a2:ag):Option (ag):=((f225 a1.Args 0).bind fun z9=>((f226 a1.Args 0 0).bind fun dG=>(bif (decide (a1.Mark=0)) then ((f227 a1 z9 a2).bind fun dy=>((bO (decide (dy.1.af.bn.length=a2.af.bn.length))).bind fun fC=>((bO (decide (dy.1.af.aT.Cells.length=a2.af.aT.Cells.length))).bind fun fD=>((bO (decide (dy.1.af.aG.Cells.length=a2.af.aG.Cells.length))).bind fun gy=>(bif (!dy.2) then ((f228 a1.Code z9 dG dy.1).bind fun z20=>(bif (!z20.2) then ((f229 a1 z9 dG z20.1).bind fun z21=>(some z21)) else (some z20.1))) else (some dy.1)))))) else none)))
theorem anS{d:Nat}(hd:9≤d){a1:aL}{a2 r:ag}(hS:f191 a1 a2=some r):bW av aX d 191 [(pt 0),(Nd a1)] [(eo a2),(aH a2.af),(aI a2.af),(aM a2.af)]=some ((.bE []),[(eo r),(aH r.af),(aI r.af),(aM r.af)]):=by
 refine cL auR hd (fun Q hQ=>?_) aez
 refine zS (zL 1 (zK (aC (cC (cy 2 (aq hS (fun z9 jI hS=>dr (some 10) none (.call 225 [(tm 9),(ki 0)]) (bX (Ud (aU hd rfl) jI)) (cy 2 (aq hS (fun dG jF hS=>dr (some 13) none (.call 226 [(tm 12),(ki 0),(ki 0)]) (bX (Uc (aU hd rfl) jF)) (cy 2 (fL (cj (bz (zS (zL 2 (sB 17 hS (fun hS=>?_) (fun hS=>?_))))))))))))))))))
 ·refine zL 1 (zK (zT (zS (zL 3 (l6 21 (fun _ h=>anP (aU hd rfl) h) hS (fun dy jm hS=>zL 2 (sL 23 hS (fun hS=>?_) (fun hS=>?_))))))))
  ·refine zL 5 (aq hS (fun z20 nN hS=>zG (some 29) 23 true (.fO 228 [(tm 24),(tm 26),(tm 27),(tm 28)]) (Pd [0,1,2,3] (anQ (aU hd rfl) nN)) (zL 2 (zK (sR 31 hS (fun hS=>?_) (fun hS=>?_))))))
   ·exact zT (a_ (zL 4 (aq hS (fun z21 nc hS=>fS 36 [0,1,2,3] (anR (aU hd rfl) nc) (nL hS hQ)))))
   ·exact nR hS hQ
  ·exact nL hS hQ
 ·cases hS
/- (*farwriter/screen.terminal).act -/
def auS(r:ag)(e:PX)(st:St):Prop:=aV abV 4 ((.bE []),[(eo r),(aH r.af),(aI r.af),(aM r.af)]) e st
def f146(a1:aL)(a2:ag):Option (ag):=(bif (decide (a1.Kind=1)) then ((f187 a1.Code a2).bind fun z5=>(some z5)) else (bif (decide (a1.Kind=2)) then ((f188 a1.Code a2).bind fun z6=>(some z6)) else (bif (decide (a1.Kind=3)) then (bif (decide (a1.Inter=([]:S8))) then ((f189 a1.Code a2).bind fun z7=>(some z7)) else none) else (bif (decide (a1.Kind=3)) then none else (bif (decide (a1.Kind=5)) then none else (bif (decide (a1.Kind=4)) then (bif (decide (a1.Inter=([]:S8))) then ((f191 a1 a2).bind fun z8=>(some z8)) else none) else (some a2)))))))
theorem anT{d:Nat}(hd:10≤d){a1:aL}{a2 r:ag}(hS:f146 a1 a2=some r):bW av aX d 146 [(pt 0),(Nd a1)] [(eo a2),(aH a2.af),(aI a2.af),(aM a2.af)]=some ((.bE []),[(eo r),(aH r.af),(aI r.af),(aM r.af)]):=by
 refine cL auS hd (fun Q hQ=>?_) aej
 refine zS (zL 1 (zK (bz (zS (zL 2 (sB 7 hS (fun hS=>?_) (fun hS=>?_)))))))
 ·exact zL 1 (zK (zT (a_ (zL 3 (aq hS (fun z5 jZ hS=>fS 11 [0,1,2,3] (anz (aU hd rfl) jZ) (nL hS hQ)))))))
 ·refine zL 1 (zK (zF (zS (zL 2 (sB 15 hS (fun hS=>?_) (fun hS=>?_))))))
  ·exact zL 1 (zK (zT (a_ (zL 3 (aq hS (fun z6 nH hS=>fS 19 [0,1,2,3] (anA (aU hd rfl) nH) (nL hS hQ)))))))
  ·refine zL 1 (zK (zF (zS (zL 2 (sB 23 hS (fun hS=>?_) (fun hS=>?_))))))
   ·refine zL 3 (sB 27 hS (fun hS=>?_) (fun hS=>?_))
    ·exact zL 2 (zK (zT (a_ (zL 3 (aq hS (fun z7 l8 hS=>fS 32 [0,1,2,3] (anK (aU hd rfl) l8) (nL hS hQ)))))))
    ·cases hS
   ·refine zL 6 (zK (zF (zS (zL 2 (sB 36 hS (fun hS=>?_) (fun hS=>?_))))))
    ·cases hS
    ·refine zL 1 (zK (zF (zS (zL 2 (sB 46 hS (fun hS=>?_) (fun hS=>?_))))))
     ·cases hS
     ·refine zL 1 (zK (zF (zS (zL 2 (sB 65 hS (fun hS=>?_) (fun hS=>?_))))))
      ·refine zL 3 (sB 69 hS (fun hS=>?_) (fun hS=>?_))
       ·exact zL 2 (zK (zT (a_ (zL 2 (aq hS (fun z8 je hS=>fS 73 [0,1,2,3] (anS (aU hd rfl) je) (nL hS hQ)))))))
       ·cases hS
      ·exact nL hS hQ
/- farwriter/screen.Run -/
def agw(Ur:aA)(oq:S8)(mM:Int):St:=⟨(up (up (up u0 6 (dI mM)) 5 (.d (.str oq))) 4 (pt 40)),(xx h0 Ur 40 420 421 422)⟩
theorem Fg{Ur:aA}{oq:S8}{mM:Int}:cP (agw Ur oq mM) 0 SL.res=some ((.bE [(.agg (eP Ur)),(.d (.str oq)),(dI mM)]),[]):=by
 exact iN (ids:= []) (ids':= [420,421,422]) (l:= [(.agg (bS Ur 420 0 421 0 422 0)),(.d (.str oq)),(dI mM)]) (by kernel_rfl) (by kernel_rfl) (BL (aN (BK (aN rfl (aN rfl (aN (gX ak (e:=87) (k:=4) (xs:=Ur.aG.Cells) (by kernel_rfl) rfl rfl rfl rfl) (aN rfl (aN rfl (aN rfl (aN rfl (aN rfl (aN rfl (aN rfl (aN rfl (aN rfl (O9 (O_ (cE .u64)) (aN rfl (aN rfl (aN rfl (aN rfl (aN rfl (aN rfl (aN rfl (aN rfl (aN rfl (aN rfl (aN rfl (aN rfl (aN rfl (aN rfl (aN (gX ak (e:=87) (k:=4) (xs:=Ur.aT.Cells) (by kernel_rfl) rfl rfl rfl rfl) (aN rfl (aN (gX b_ (e:=111) (k:=1) (xs:=Ur.bn) (by kernel_rfl) rfl rfl rfl rfl) mW))))))))))))))))))))))))))))))) (aN rfl (aN rfl mW))))
def Hw(r:aA×S8×Int)(e:PX)(st:St):Prop:=aV SL 0 ((.bE [(.agg (eP r.1)),(.d (.str r.2.1)),(dI r.2.2)]),[]) e st
def Yr(a1:aA)(a2:List aL)(fe:ag):St:=⟨(up (up u0 9 (pt 240)) 4 (pt 40)),(jS fe)⟩
def Uu(a1:aA)(a2:List aL)(fe:ag):Option (aA×S8×Int):=(some (fe.af,fe.sent,0))
theorem Uv(hd:11≤d){a1:aA}{a2:List aL}{r:aA×S8×Int}(hQ:FQ (Hw r) Q){fe:ag}(hS:Uu a1 a2 fe=some r): ∀st,au [4,9] [(40,.id 40),(240,.id 240),(224,.id 224),(225,.id 225),(226,.id 226)] [] st=Yr a1 a2 fe→ZX d Q abZ [] st:=by
 intro st he
 exact ay he (aC (cC (cy 11 (fL (cj (cM (bk (eA hS hQ (fR Fg)))))))))
def Ys(a1:aA)(a2:List aL)(x:ag×Int):St:=⟨(up (up (up (up (up u0 32 (dI x.2)) 31 (dI (a2.length:Int))) 30 (dE bB a2)) 9 (pt 240)) 4 (pt 40)),(jS x.1)⟩
def sH(a1:aA)(a2:List aL)(x:ag×Int)(st:St):Prop:=au [4,9,30,31,32] [(40,.id 40),(240,.id 240),(224,.id 224),(225,.id 225),(226,.id 226)] [] st=Ys a1 a2 x
def Bp(a1:aA)(a2:List aL)(iJ:ag):St:=⟨(up (up u0 9 (pt 240)) 4 (pt 40)),(jS iJ)⟩
def vY(a1:aA)(a2:List aL)(z:ag)(e:PX)(st:St):Prop:=e= .exit 0∧st=Bp a1 a2 z
def Ml(a1:aA)(a2:List aL)(mY:ag)(sP:Int):St:=⟨(up (up (up (up (up u0 32 (dI sP)) 31 (dI (a2.length:Int))) 30 (dE bB a2)) 9 (pt 240)) 4 (pt 40)),(jS mY)⟩
def yQ(a1:aA)(a2:List aL)(mY:ag)(sP:Int):Option ((ag×Int)⊕ag):=((idx a2 sP).bind fun z23=>((f146 z23 mY).bind fun z24=>(some (.inl (z24,(IntKind.i64.wrap (sP+1)))))))
theorem KA(hd:11≤d){a1:aA}{a2:List aL}{r:(ag×Int)⊕ag}(hQ:FQ (bG (sH a1 a2) (vY a1 a2) r) Q){mY:ag}{sP:Int}(hS:yQ a1 a2 mY sP=some r): ∀st,au [4,9,30,31,32] [(40,.id 40),(240,.id 240),(224,.id 224),(225,.id 225),(226,.id 226)] [] st=Ml a1 a2 mY sP→ZX d Q abW [] st:=by
 intro st he
 exact ay he (aC (bz (zS (aq hS (fun z23 xC hS=>zO (v:=(.cD (bB.enc z23++(bB.cells (a2.drop ((sP:Int).toNat+1)))))) (aD:= []) (some 34) (.jz 248 6 (tm 30) (tm 32)) (fQ bB (kk:= .i64) (xs:=a2) (j:=sP) (by kernel_rfl) (by kernel_rfl) xC rfl (by intro h;cases h)) (zL 3 (zK (a_ (zL 2 (aq hS (fun z24 pX hS=>fS 38 [240,224,225,226] (anT (aU hd rfl) pX) (lL hS hQ))))))))))))
def Mm(a1:aA)(a2:List aL)(eF:ag)(ic:Int)(mP:Bool):St:=⟨(up (up (up (up (up (up u0 33 (dB mP)) 32 (dI ic)) 31 (dI (a2.length:Int))) 30 (dE bB a2)) 9 (pt 240)) 4 (pt 40)),(jS eF)⟩
def pq(a1:aA)(a2:List aL)(eF:ag)(ic:Int)(mP:Bool):Option ((ag×Int)⊕ag):=(bif mP then (yQ a1 a2 eF ic) else (some (.inr eF)))
theorem yR(hd:11≤d){a1:aA}{a2:List aL}{r:(ag×Int)⊕ag}(hQ:FQ (bG (sH a1 a2) (vY a1 a2) r) Q){eF:ag}{ic:Int}{mP:Bool}(hS:pq a1 a2 eF ic mP=some r): ∀st,au [4,9,30,31,32,33] [(40,.id 40),(240,.id 240),(224,.id 224),(225,.id 225),(226,.id 226)] [] st=Mm a1 a2 eF ic mP→ZX d Q abX [] st:=by
 intro st he
 refine ay he (aC (sR 33 hS (fun hS=>?_) (fun hS=>?_)))
 ·exact jR (KA hd hQ hS)
 ·exact zF (ay (J:=Bp a1 a2 eF) (by kernel_rfl) (dh (cY (bk (jA hS hQ)))))
def pz(a1:aA)(a2:List aL)(x:ag×Int):Option ((ag×Int)⊕ag):=(bif (decide (x.2<(a2.length:Int))) then (pq a1 a2 x.1 x.2 true) else (pq a1 a2 x.1 x.2 false))
theorem Uw(hd:11≤d){a1:aA}{a2:List aL}{r:(ag×Int)⊕ag}(hQ:FQ (bG (sH a1 a2) (vY a1 a2) r) Q){x:ag×Int}(hS:pz a1 a2 x=some r)(he:sH a1 a2 x st):ZX d Q abY [] st:=by
 refine ay he (zS (sB 33 hS (fun hS=>?_) (fun hS=>?_)))
 ·exact zK (yR hd hQ hS _ (by kernel_rfl))
 ·exact jL (yR hd hQ hS)
def Yt(a1:aA)(a2:List aL):St:=⟨(up (up (up u0 4 (pt 40)) 2 (pt 24)) 1 (dE bB a2)),(up (up h0 40 mL) 24 ⟨0,some (.box (bM a1))⟩)⟩
def KB(a1:aA)(a2:List aL):Option (aA×S8×Int):=((f38 a1).bind fun dy=>((b9 (pz a1 a2) ((ag.mk dy ([])),0)).bind fun z25=>(Uu a1 a2 z25)))
theorem Ux(hd:11≤d){a1:aA}{a2:List aL}{r:aA×S8×Int}(hQ:FQ (Hw r) Q)(hS:KB a1 a2=some r): ∀st,au [1,2,4] [(24,.id 24),(40,.id 40)] [] st=Yt a1 a2→ZX d Q ab0 [] st:=by
 intro st he
 refine ay he (zS (zL 1 (aq hS (fun dy jm hS=>zO (v:=(.agg (bS dy 224 1 225 1 226 1))) (aD:= [(224,⟨1,some (aH dy)⟩),(225,⟨1,some (aI dy)⟩),(226,⟨1,some (aM dy)⟩)]) (some 27) (.jd 38 [(tm 26)]) (iT (args:= [(.agg (bM a1))]) (args':= [(.agg (bM a1))]) (l:= [(.agg (bM a1))]) (refs:= []) (r:=(.agg (eP dy))) (v:=(.agg (bS dy 224 1 225 1 226 1))) (nJ:= [(224,⟨1,some (aH dy)⟩),(225,⟨1,some (aI dy)⟩),(226,⟨1,some (aM dy)⟩)]) (by kernel_rfl) (by kernel_rfl) (by kernel_rfl) (gM rfl lQ) (by kernel_rfl) (Hs (aU hd rfl) jm) (by kernel_rfl) (by kernel_rfl) (by kernel_rfl) (by kernel_rfl)) (zL 3 (zK (aC (zS (zL 3 (zK (bz (aq hS (fun z25 rQ hS=>dN (sH a1 a2) (vY a1 a2) (fun x st r Q h0 hS hQ=>Uw hd hQ hS h0) (x:=((ag.mk dy ([])),0)) (z:=z25) (by show au _ _ _ _=_;kernel_rfl) rQ ?_)))))))))))))
 intro e bl _ hX
 obtain ⟨rfl,rfl⟩:_∧_:=hX
 exact jK (Uv hd hQ hS)
def Yu(a1:aA)(a2:List aL):St:=⟨(up (up (up u0 4 (pt 40)) 2 (pt 24)) 1 (dE bB a2)),(up (up h0 40 mL) 24 ⟨0,some (.box (bM a1))⟩)⟩
def KC(a1:aA)(a2:List aL):Option (aA×S8×Int):=((f145 a2).bind fun z26=>(bif (!decide (z26=0)) then ((f38 a1).bind fun tL=>(some (tL,[],z26))) else (KB a1 a2)))
theorem Uy(hd:11≤d){a1:aA}{a2:List aL}{r:aA×S8×Int}(hQ:FQ (Hw r) Q)(hS:KC a1 a2=some r): ∀st,au [1,2,4] [(24,.id 24),(40,.id 40)] [.cell 40 2 0 0 1,.cell 40 30 0 0 1,.cell 40 32 0 0 1] st=Yu a1 a2→ZX d Q ab1 [] st:=by
 intro st he
 refine ay he (aC (zS (zL 1 (aq hS (fun z26 rH hS=>zC 20 (anc (aU hd rfl) rH) (zL 1 (zK (zS (zL 1 (sB 22 hS (fun hS=>?_) (fun hS=>?_)))))))))))
 ·exact zK (zT (zS (zL 1 (aq hS (fun tL acH hS=>zO (v:=(.agg (bS tL 200 1 201 1 202 1))) (aD:= [(200,⟨1,some (aH tL)⟩),(201,⟨1,some (aI tL)⟩),(202,⟨1,some (aM tL)⟩)]) (some 24) (.jd 38 [(tm 23)]) (iT (args:= [(.agg (bM a1))]) (args':= [(.agg (bM a1))]) (l:= [(.agg (bM a1))]) (refs:= []) (r:=(.agg (eP tL))) (v:=(.agg (bS tL 200 1 201 1 202 1))) (nJ:= [(200,⟨1,some (aH tL)⟩),(201,⟨1,some (aI tL)⟩),(202,⟨1,some (aM tL)⟩)]) (by kernel_rfl) (by kernel_rfl) (by kernel_rfl) (gM rfl lQ) (by kernel_rfl) (Hs (aU hd rfl) acH) (by kernel_rfl) (by kernel_rfl) (by kernel_rfl) (by kernel_rfl)) (zL 4 (zK (cM (bP (bk (eA hS hQ (fR Fg))))))))))))
 ·exact jL (Ux hd hQ hS)
def f108(a1:aA)(a2:List aL):Option (aA×S8×Int):=((f22 a1).bind fun z28=>(bif (!decide (z28=0)) then ((f38 a1).bind fun ox=>(some (ox,[],z28))) else (KC a1 a2)))
theorem anU{d:Nat}(hd:11≤d){a1:aA}{a2:List aL}{r:aA×S8×Int}(hS:f108 a1 a2=some r):bW av aX d 108 [(.agg (bM a1)),(dE bB a2)] []=some ((.bE [(.agg (eP r.1)),(.d (.str r.2.1)),(dI r.2.2)]),[]):=by
 refine cL Hw hd (fun Q hQ=>?_) aea
 refine zS (zL 4 (zK (aC (zS (zL 1 (aq hS (fun z28 S3 hS=>zC 13 (ach (aU hd rfl) S3) (zL 1 (zK (zS (zL 1 (sB 15 hS (fun hS=>?_) (fun hS=>?_)))))))))))))
 ·exact zK (zT (zS (zL 1 (aq hS (fun ox JE hS=>zO (v:=(.agg (bS ox 144 1 145 1 146 1))) (aD:= [(144,⟨1,some (aH ox)⟩),(145,⟨1,some (aI ox)⟩),(146,⟨1,some (aM ox)⟩)]) (some 17) (.jd 38 [(tm 16)]) (iT (args:= [(.agg (bM a1))]) (args':= [(.agg (bM a1))]) (l:= [(.agg (bM a1))]) (refs:= []) (r:=(.agg (eP ox))) (v:=(.agg (bS ox 144 1 145 1 146 1))) (nJ:= [(144,⟨1,some (aH ox)⟩),(145,⟨1,some (aI ox)⟩),(146,⟨1,some (aM ox)⟩)]) (by kernel_rfl) (by kernel_rfl) (by kernel_rfl) (gM rfl lQ) (by kernel_rfl) (Hs (aU hd rfl) JE) (by kernel_rfl) (by kernel_rfl) (by kernel_rfl) (by kernel_rfl)) (zL 4 (zK (cM (bP (bk (eA hS hQ (fR Fg))))))))))))
 ·exact jL (Uy hd hQ hS)
/- farwriter/draw.Show -/
def agx(p2:aA)(p3:S8)(p4:Int):St:=⟨(up (up (up u0 6 (dI p4)) 5 (.d (.str p3))) 4 (pt 40)),(xx h0 p2 40 160 161 162)⟩
theorem agy{p2:aA}{p3:S8}{p4:Int}:cP (agx p2 p3 p4) 0 SM.res=some ((.bE [(.agg (eP p2)),(.d (.str p3)),(dI p4)]),[]):=by
 exact iN (ids:= []) (ids':= [160,161,162]) (l:= [(.agg (bS p2 160 0 161 0 162 0)),(.d (.str p3)),(dI p4)]) (by kernel_rfl) (by kernel_rfl) (BL (aN (BK (aN rfl (aN rfl (aN (gX ak (e:=87) (k:=4) (xs:=p2.aG.Cells) (by kernel_rfl) rfl rfl rfl rfl) (aN rfl (aN rfl (aN rfl (aN rfl (aN rfl (aN rfl (aN rfl (aN rfl (aN rfl (O9 (O_ (cE .u64)) (aN rfl (aN rfl (aN rfl (aN rfl (aN rfl (aN rfl (aN rfl (aN rfl (aN rfl (aN rfl (aN rfl (aN rfl (aN rfl (aN rfl (aN (gX ak (e:=87) (k:=4) (xs:=p2.aT.Cells) (by kernel_rfl) rfl rfl rfl rfl) (aN rfl (aN (gX b_ (e:=111) (k:=1) (xs:=p2.bn) (by kernel_rfl) rfl rfl rfl rfl) mW))))))))))))))))))))))))))))))) (aN rfl (aN rfl mW))))
def acK(r:aA×S8×Int)(e:PX)(st:St):Prop:=aV SM 0 ((.bE [(.agg (eP r.1)),(.d (.str r.2.1)),(dI r.2.2)]),[]) e st
def Yv(a1:aA)(a2:List Int)(p5:List aL):St:=⟨(up (up (up u0 8 (dE bB p5)) 4 (pt 40)) 2 (pt 24)),(up (up h0 40 mL) 24 ⟨0,some (.box (bM a1))⟩)⟩
def KD(a1:aA)(a2:List Int)(p5:List aL):Option (aA×S8×Int):=((f108 a1 p5).bind fun z4=>(some (z4.1,z4.2.1,z4.2.2)))
theorem Uz(hd:12≤d){a1:aA}{a2:List Int}{r:aA×S8×Int}(hQ:FQ (acK r) Q){p5:List aL}(hS:KD a1 a2 p5=some r): ∀st,au [2,4,8] [(24,.id 24),(40,.id 40)] [.cell 40 2 0 0 1,.cell 40 30 0 0 1,.cell 40 32 0 0 1] st=Yv a1 a2 p5→ZX d Q ab2 [] st:=by
 intro st he
 exact ay he (zS (zL 2 (aq hS (fun z4 jf hS=>zO (v:=(.bE [(.agg (bS z4.1 160 1 161 1 162 1)),(.d (.str z4.2.1)),(dI z4.2.2)])) (aD:= [(160,⟨1,some (aH z4.1)⟩),(161,⟨1,some (aI z4.1)⟩),(162,⟨1,some (aM z4.1)⟩)]) (some 19) (.jd 108 [(tm 17),(tm 18)]) (iT (args:= [(.agg (bM a1)),(dE bB p5)]) (args':= [(.agg (bM a1)),(dE bB p5)]) (l:= [(.agg (bM a1)),(dE bB p5)]) (refs:= []) (r:=(.bE [(.agg (eP z4.1)),(.d (.str z4.2.1)),(dI z4.2.2)])) (v:=(.bE [(.agg (bS z4.1 160 1 161 1 162 1)),(.d (.str z4.2.1)),(dI z4.2.2)])) (nJ:= [(160,⟨1,some (aH z4.1)⟩),(161,⟨1,some (aI z4.1)⟩),(162,⟨1,some (aM z4.1)⟩)]) (by kernel_rfl) (by kernel_rfl) (by kernel_rfl) (gM rfl (gM rfl lQ)) (by kernel_rfl) (anU (aU hd rfl) jf) (by kernel_rfl) (by kernel_rfl) (by kernel_rfl) (by kernel_rfl)) (zL 6 (zK (cM (bk (eA hS hQ (fR agy))))))))))
def f114(a1:aA)(a2:List Int):Option (aA×S8×Int):=((f107 (aR.mk 0 0 ([]) ([]) ([])) a2).bind fun z3=>(KD a1 a2 z3.2.1))
theorem anV{d:Nat}(hd:12≤d){a1:aA}{a2:List Int}{r:aA×S8×Int}(hS:f114 a1 a2=some r):bW av aX d 114 [(.agg (bM a1)),(dL a2)] []=some ((.bE [(.agg (eP r.1)),(.d (.str r.2.1)),(dI r.2.2)]),[]):=by
 refine cL acK hd (fun Q hQ=>?_) aeb
 exact zS (zL 4 (zK (zS (zL 2 (aq hS (fun z3 hz3 hS=>zO (v:=(.bE [(.agg (BO z3.1)),(.r (.aJ 112 1 0 z3.2.1.length)),(dI z3.2.2)])) (aD:= [(112,⟨1,some (.own 248 6 (bB.cells z3.2.1))⟩)]) (some 13) (.jd 107 [(tm 11),(tm 12)]) (iT (args:= [(.agg C6),(dL a2)]) (args':= [(.agg C6),(dL a2)]) (l:= [(.agg C6),(dL a2)]) (refs:= []) (r:=(.bE [(.agg (BO z3.1)),(.r (.own 0 248 6 z3.2.1.length (bB.cells z3.2.1))),(dI z3.2.2)])) (v:=(.bE [(.agg (BO z3.1)),(.r (.aJ 112 1 0 z3.2.1.length)),(dI z3.2.2)])) (nJ:= [(112,⟨1,some (.own 248 6 (bB.cells z3.2.1))⟩)]) (by kernel_rfl) (by kernel_rfl) (by kernel_rfl) (gM rfl (gM rfl lQ)) (by kernel_rfl) (am8 (aU hd rfl) hz3) (by kernel_rfl) (by kernel_rfl) (by kernel_rfl) (by kernel_rfl)) (zL 8 (zK (Uz hd hQ hS _ (by exact (by kernel_rfl:_=(⟨(up (up (up u0 8 (.d (.sl z3.2.1.length (((bB.cells z3.2.1).drop (0*bB.k)).take (z3.2.1.length*bB.k))))) 4 (pt 40)) 2 (pt 24)),(up (up h0 40 mL) 24 ⟨0,some (.box (bM a1))⟩)⟩:St)).trans (by simp only [cT.O8];kernel_rfl)))))))))))
/- (*farwriter/client.worker).display -/
def UA(p2:bf):St:=⟨u0,(up h0 0 ⟨0,some (vn p2)⟩)⟩
theorem anW{p2:bf}:cP (UA p2) 1 WA.res=some ((.bE []),[(vn p2)]):=by
 kernel_rfl
def anX(r:bf)(e:PX)(st:St):Prop:=aV WA 1 ((.bE []),[(vn r)]) e st
def agz(a1:S8)(a2:bf)(p3:List Int):St:=⟨(up (up u0 5 (dL p3)) 0 (pt 0)),(up h0 0 ⟨0,some (vn a2)⟩)⟩
def QT(a1:S8)(a2:bf)(p3:List Int):Option (bf):=((f114 a2.Client.af p3).bind fun z6=>(some (bf.mk ({a2.Client with af:=z6.1}) a2.sent)))
theorem Yw(hd:13≤d){a1:S8}{a2 r:bf}(hQ:FQ (anX r) Q){p3:List Int}(hS:QT a1 a2 p3=some r): ∀st,au [0,5] [(0,.id 0)] [] st=agz a1 a2 p3→ZX d Q alj [] st:=by
 intro st he
 exact ay he (a_ (zL 7 (aq hS (fun z6 nH hS=>zO (v:=(.bE [(.agg (bS z6.1 184 1 185 1 186 1)),(.d (.str z6.2.1)),(dI z6.2.2)])) (aD:= [(184,⟨1,some (aH z6.1)⟩),(185,⟨1,some (aI z6.1)⟩),(186,⟨1,some (aM z6.1)⟩)]) (some 22) (.jd 114 [(tm 20),(tm 21)]) (iT (args:= [(.agg (bM a2.Client.af)),(dL p3)]) (args':= [(.agg (bM a2.Client.af)),(dL p3)]) (l:= [(.agg (bM a2.Client.af)),(dL p3)]) (refs:= []) (r:=(.bE [(.agg (eP z6.1)),(.d (.str z6.2.1)),(dI z6.2.2)])) (v:=(.bE [(.agg (bS z6.1 184 1 185 1 186 1)),(.d (.str z6.2.1)),(dI z6.2.2)])) (nJ:= [(184,⟨1,some (aH z6.1)⟩),(185,⟨1,some (aI z6.1)⟩),(186,⟨1,some (aM z6.1)⟩)]) (by kernel_rfl) (by kernel_rfl) (by kernel_rfl) (gM rfl (gM rfl lQ)) (by kernel_rfl) (anV (aU hd rfl) nH) (by kernel_rfl) (by kernel_rfl) (by kernel_rfl) (by kernel_rfl)) (zL 8 (zE (bk (eA hS hQ (aia (by kernel_rfl) ((congrArg (fun s=>cP s 1 WA.res) (by exact (by kernel_rfl:_=(⟨u0,(up h0 0 ⟨0,some (.box (FR (bf.mk (bg.mk ((bf.mk ({a2.Client with af:=z6.1}) a2.sent).Client.iF) ((bf.mk ({a2.Client with af:=z6.1}) a2.sent).Client.Cr) ((bf.mk ({a2.Client with af:=z6.1}) a2.sent).Client.Part) ((bf.mk ({a2.Client with af:=z6.1}) a2.sent).Client.dX) (aA.mk (bQ.mk ((bf.mk ({a2.Client with af:=z6.1}) a2.sent).Client.af.aG.bR) ((bf.mk ({a2.Client with af:=z6.1}) a2.sent).Client.af.aG.bV) z6.1.aG.Cells) ((bf.mk ({a2.Client with af:=z6.1}) a2.sent).Client.af.Row) ((bf.mk ({a2.Client with af:=z6.1}) a2.sent).Client.af.cQ) ((bf.mk ({a2.Client with af:=z6.1}) a2.sent).Client.af.eV) ((bf.mk ({a2.Client with af:=z6.1}) a2.sent).Client.af.jx) ((bf.mk ({a2.Client with af:=z6.1}) a2.sent).Client.af.cZ) ((bf.mk ({a2.Client with af:=z6.1}) a2.sent).Client.af.cz) ((bf.mk ({a2.Client with af:=z6.1}) a2.sent).Client.af.dO) ((bf.mk ({a2.Client with af:=z6.1}) a2.sent).Client.af.gN) ((bf.mk ({a2.Client with af:=z6.1}) a2.sent).Client.af.bF) ((bf.mk ({a2.Client with af:=z6.1}) a2.sent).Client.af.cN) ((bf.mk ({a2.Client with af:=z6.1}) a2.sent).Client.af.aS) (bQ.mk ((bf.mk ({a2.Client with af:=z6.1}) a2.sent).Client.af.aT.bR) ((bf.mk ({a2.Client with af:=z6.1}) a2.sent).Client.af.aT.bV) z6.1.aT.Cells) ((bf.mk ({a2.Client with af:=z6.1}) a2.sent).Client.af.gZ) z6.1.bn) ((bf.mk ({a2.Client with af:=z6.1}) a2.sent).Client.Neg) ((bf.mk ({a2.Client with af:=z6.1}) a2.sent).Client.bL) ((bf.mk ({a2.Client with af:=z6.1}) a2.sent).Client.Vars) ((bf.mk ({a2.Client with af:=z6.1}) a2.sent).Client.Keys) ((bf.mk ({a2.Client with af:=z6.1}) a2.sent).Client.Mask) ((bf.mk ({a2.Client with af:=z6.1}) a2.sent).Client.gS) ((bf.mk ({a2.Client with af:=z6.1}) a2.sent).Client.lF)) ((bf.mk ({a2.Client with af:=z6.1}) a2.sent).sent)) (.d (.sl z6.1.aG.Cells.length (((ak.cells z6.1.aG.Cells).drop (0*ak.k)).take (z6.1.aG.Cells.length*ak.k)))) (.d (.sl z6.1.aT.Cells.length (((ak.cells z6.1.aT.Cells).drop (0*ak.k)).take (z6.1.aT.Cells.length*ak.k)))) (.d (.sl z6.1.bn.length (((b_.cells z6.1.bn).drop (0*b_.k)).take (z6.1.bn.length*b_.k)))) (.d (.sl ((bf.mk ({a2.Client with af:=z6.1}) a2.sent).Client.bL.Names).length (dM.cells ((bf.mk ({a2.Client with af:=z6.1}) a2.sent).Client.bL.Names)))) (.d (.sl ((bf.mk ({a2.Client with af:=z6.1}) a2.sent).Client.Vars).length (cW.cells ((bf.mk ({a2.Client with af:=z6.1}) a2.sent).Client.Vars))))))⟩)⟩:St)).trans (by simp only [cT.O8];kernel_rfl):dY WA.fin _=UA (bf.mk ({a2.Client with af:=z6.1}) a2.sent))).trans anW))))))))))
def f77(a1:S8)(a2:bf):Option (bf):=((eO a1 [13] [13,10]).bind fun z4=>((f106 [] z4).bind fun z5=>(QT a1 a2 z5.2.1)))
theorem auT{d:Nat}(hd:13≤d){a1:S8}{a2 r:bf}(hS:f77 a1 a2=some r):bW av aX d 77 [(pt 0),(.d (.str a1))] [(vn a2)]=some ((.bE []),[(vn r)]):=by
 refine cL anX hd (fun Q hQ=>?_) al7
 exact zS (zL 1 (aq hS (fun z4 jf hS=>zC 9 (s7 (aU hd rfl) jf) (aq hS (fun z5 jZ hS=>zC 10 (am2 (aU hd rfl) jZ) (zL 7 (zK (Yw hd hQ hS _ (by exact (by kernel_rfl:_=(⟨(up (up u0 5 (.d (.sl z5.2.1.length (((eI.cells z5.2.1).drop (0*eI.k)).take (z5.2.1.length*eI.k))))) 0 (pt 0)),(up h0 0 ⟨0,some (vn a2)⟩)⟩:St)).trans (by simp only [cT.O8];kernel_rfl))))))))))
/- (*farwriter/client.worker).typed -/
def Yx(r:bf×Int)(e:PX)(st:St):Prop:=aV c42 1 ((dI r.2),[(vn r.1)]) e st
def agA(a1:S8)(a2:Int)(a3 p8:bf):St:=⟨(up (up u0 7 (.d (.str a1))) 0 (pt 0)),(up h0 0 ⟨0,some (vn p8)⟩)⟩
def Hx(a1:S8)(a2:Int)(a3 p8:bf):Option (bf×Int):=((f76 p8 [] 1).bind fun z7=>(bif (!z7) then ((f77 a1 p8).bind fun z8=>(some (z8,0))) else (some (p8,0))))
theorem KE(hd:14≤d){a1:S8}{a2:Int}{a3:bf}{r:bf×Int}(hQ:FQ (Yx r) Q){p8:bf}(hS:Hx a1 a2 a3 p8=some r): ∀st,au [0,7] [(0,.id 0)] [] st=agA a1 a2 a3 p8→ZX d Q alk [] st:=by
 intro st he
 refine ay he (aC (zS (zL 1 (aq hS (fun z7 l8 hS=>zC 73 (aub (aU hd rfl) l8) (zL 1 (zK (sR 74 hS (fun hS=>?_) (fun hS=>?_)))))))))
 ·exact zT (a_ (zL 2 (aq hS (fun z8 je hS=>fS 77 [0] (auT (aU hd rfl) je) (nL hS hQ)))))
 ·exact nR hS hQ
def agB(a1:S8)(a2:Int)(a3:bf):St:=⟨(up (up u0 1 (.d (.str a1))) 0 (pt 0)),(up h0 0 ⟨0,some (vn a3)⟩)⟩
def QU(a1:S8)(a2:Int)(a3:bf):Option (bf×Int):=(bif a3.Client.lF then ((f46 a3 [] 34).bind fun dG=>(bif dG then none else ((f44 a1 a3).bind fun cS=>(Hx a1 a2 a3 cS)))) else ((f44 a1 a3).bind fun z12=>(Hx a1 a2 a3 z12)))
theorem Yy(hd:14≤d){a1:S8}{a2:Int}{a3:bf}{r:bf×Int}(hQ:FQ (Yx r) Q)(hS:QU a1 a2 a3=some r): ∀st,au [0,1] [(0,.id 0)] [] st=agB a1 a2 a3→ZX d Q alm [] st:=by
 intro st he
 refine ay he (zS (zL 2 (zK (aC (zS (zL 6 (sL 23 hS (fun hS=>?_) (fun hS=>?_))))))))
 ·refine zL 1 (aq hS (fun dG jF hS=>zG (some 25) 23 true (.call 46 [(tm 24),(ki 34)]) (bX (acq (aU hd rfl) jF)) (zL 1 (zK (sR 26 hS (fun hS=>?_) (fun hS=>?_))))))
  ·refine zT (aC (cC (cy 16 ?_)))
   cases hS
  ·exact zF (a_ (zL 2 (aq hS (fun cS kf hS=>fS 71 [0] (QI (aU hd rfl) kf) (zK (KE hd hQ hS _ (by kernel_rfl)))))))
 ·exact zL 3 (zK (zF (a_ (zL 2 (aq hS (fun z12 gO hS=>fS 71 [0] (QI (aU hd rfl) gO) (jL (KE hd hQ hS))))))))
def f42(a1:S8)(a2:Int)(a3:bf):Option (bf×Int):=(bif (!decide (a2=0)) then (some (a3,a2)) else (QU a1 a2 a3))
theorem auU{d:Nat}(hd:14≤d){a1:S8}{a2:Int}{a3:bf}{r:bf×Int}(hS:f42 a1 a2 a3=some r):bW av aX d 42 [(pt 0),(.d (.str a1)),(dI a2)] [(vn a3)]=some ((dI r.2),[(vn r.1)]):=by
 refine cL Yx hd (fun Q hQ=>?_) alK
 refine zS (zL 1 (zK (aC (zS (zL 1 (sB 15 hS (fun hS=>?_) (fun hS=>?_)))))))
 ·exact nL hS hQ
 ·exact jL (Yy hd hQ hS)
/- farwriter/press.Mouse -/
def Gp(r:S8×Int)(e:PX)(st:St):Prop:=aV c9 0 ((.bE [(.d (.str r.1)),(dI r.2)]),[]) e st
def anY(a1:cK)(a2 TS:Int)(BV:S8):St:=⟨(up (up (up u0 9 (.d (.str BV))) 8 (dI TS)) 2 (pt 24)),(up h0 24 ⟨0,some (.box (xy a1))⟩)⟩
def KF(a1:cK)(a2 TS:Int)(BV:S8):Option (S8×Int):=((dm TS).bind fun dG=>((ep ([27,91,60]:S8) dG).bind fun cS=>((ep cS ([59]:S8)).bind fun z12=>((dm (IntKind.i64.wrap (a1.cQ+1))).bind fun dP=>((ep z12 dP).bind fun dU=>((ep dU ([59]:S8)).bind fun fk=>((dm (IntKind.i64.wrap (a1.Row+1))).bind fun dy=>((ep fk dy).bind fun fC=>((ep fC BV).bind fun fD=>(some (fD,0)))))))))))
theorem N7(hd:1≤d){a1:cK}{a2:Int}{r:S8×Int}(hQ:FQ (Gp r) Q){TS:Int}{BV:S8}(hS:KF a1 a2 TS BV=some r): ∀st,au [2,8,9] [(24,.id 24)] [] st=anY a1 a2 TS BV→ZX d Q awr [] st:=by
 intro st he
 exact ay he (aC (cC (cy 1 (aq hS (fun dG jF hS=>dr (some 119) none (c1 31 118) (bX (kR (aU hd rfl) jF)) (aq hS (fun cS kf hS=>dr (v:=(.d (.str cS))) (aD:= []) (some 120) none (.jD .add (.const (.string ⟨#[27,91,60]⟩)) (tm 119)) (gJ (a:= [27,91,60]) (c:=dG) (by kernel_rfl) (by kernel_rfl) kf) (aq hS (fun z12 gO hS=>dr (v:=(.d (.str z12))) (aD:= []) (some 121) none (.jD .add (tm 120) (.const (.string ⟨#[59]⟩))) (gJ (a:=cS) (c:= [59]) (by kernel_rfl) (by kernel_rfl) gO) (cy 3 (aq hS (fun dP jn hS=>dr (some 125) none (c1 31 124) (bX (kR (aU hd rfl) jn)) (aq hS (fun dU kg hS=>dr (v:=(.d (.str dU))) (aD:= []) (some 126) none (.jD .add (tm 121) (tm 125)) (gJ (a:=z12) (c:=dP) (by kernel_rfl) (by kernel_rfl) kg) (aq hS (fun fk kX hS=>dr (v:=(.d (.str fk))) (aD:= []) (some 127) none (.jD .add (tm 126) (.const (.string ⟨#[59]⟩))) (gJ (a:=dU) (c:= [59]) (by kernel_rfl) (by kernel_rfl) kX) (cy 3 (aq hS (fun dy jm hS=>dr (some 131) none (c1 31 130) (bX (kR (aU hd rfl) jm)) (aq hS (fun fC ke hS=>dr (v:=(.d (.str fC))) (aD:= []) (some 132) none (.jD .add (tm 127) (tm 131)) (gJ (a:=fk) (c:=dy) (by kernel_rfl) (by kernel_rfl) ke) (cy 1 (aq hS (fun fD lJ hS=>dr (v:=(.d (.str fD))) (aD:= []) (some 134) none (.jD .add (tm 132) (tm 133)) (gJ (a:=fC) (c:=BV) (by kernel_rfl) (by kernel_rfl) lJ) (cy 2 (fL (nK hS hQ)))))))))))))))))))))))))))
def anZ(a1:cK)(a2 Yz:Int):St:=⟨(up (up u0 8 (dI Yz)) 2 (pt 24)),(up h0 24 ⟨0,some (.box (xy a1))⟩)⟩
def YA(a1:cK)(a2 Yz:Int):Option (S8×Int):=(bif a1.Up then (KF a1 a2 Yz [109]) else (KF a1 a2 Yz [77]))
theorem agC(hd:1≤d){a1:cK}{a2:Int}{r:S8×Int}(hQ:FQ (Gp r) Q){Yz:Int}(hS:YA a1 a2 Yz=some r): ∀st,au [2,8] [(24,.id 24)] [] st=anZ a1 a2 Yz→ZX d Q aws [] st:=by
 intro st he
 refine ay he (zS (zL 1 (zK (aC (zS (zL 2 (zK (sR 117 hS (fun hS=>?_) (fun hS=>?_)))))))))
 ·exact zT (a_ (zL 1 (zK (N7 hd hQ hS _ (by kernel_rfl)))))
 ·exact jR (N7 hd hQ hS)
def an0(a1:cK)(a2:Int)(p91:Bool)(Fh:Int):St:=⟨(up (up (up u0 8 (dI Fh)) 7 (dB p91)) 2 (pt 24)),(up h0 24 ⟨0,some (.box (xy a1))⟩)⟩
def Fi(a1:cK)(a2:Int)(p91:Bool)(Fh:Int):Option (S8×Int):=(bif (!p91) then (some (([27,91,77,(u8 (IntKind.i64.wrap ((IntKind.i64.wrap (Fh+(IntKind.i64.wrap (4*a1.eG))))+32))),(u8 (IntKind.i64.wrap (a1.cQ+33))),(u8 (IntKind.i64.wrap (a1.Row+33)))]:S8),0)) else (YA a1 a2 (IntKind.i64.wrap (Fh+(IntKind.i64.wrap (4*a1.eG))))))
theorem Fj(hd:1≤d){a1:cK}{a2:Int}{r:S8×Int}(hQ:FQ (Gp r) Q){p91:Bool}{Fh:Int}(hS:Fi a1 a2 p91 Fh=some r): ∀st,au [2,7,8] [(24,.id 24)] [] st=an0 a1 a2 p91 Fh→ZX d Q awt [] st:=by
 intro st he
 refine ay he (zS (zL 6 (zK (aC (zS (zL 2 (zK (sR 102 hS (fun hS=>?_) (fun hS=>?_)))))))))
 ·exact zT (zS (zL 2 (zO (v:=(.d (.int .u8 ((u8 (IntKind.i64.wrap ((IntKind.i64.wrap (Fh+(IntKind.i64.wrap (4*a1.eG))))+32))).toNat:Int)))) (aD:= []) (some 105) (.ku .u8 (tm 104)) (gC (kk:= .i64) (a:=(IntKind.i64.wrap ((IntKind.i64.wrap (Fh+(IntKind.i64.wrap (4*a1.eG))))+32))) (by kernel_rfl) (iq _)) (zL 3 (zO (v:=(.d (.int .u8 ((u8 (IntKind.i64.wrap (a1.cQ+33))).toNat:Int)))) (aD:= []) (some 109) (.ku .u8 (tm 108)) (gC (kk:= .i64) (a:=(IntKind.i64.wrap (a1.cQ+33))) (by kernel_rfl) (iq _)) (zL 3 (zO (v:=(.d (.int .u8 ((u8 (IntKind.i64.wrap (a1.Row+33))).toNat:Int)))) (aD:= []) (some 113) (.ku .u8 (tm 112)) (gC (kk:= .i64) (a:=(IntKind.i64.wrap (a1.Row+33))) (by kernel_rfl) (iq _)) (zL 1 (zO (v:=(.d (.str ([27,91,77,(u8 (IntKind.i64.wrap ((IntKind.i64.wrap (Fh+(IntKind.i64.wrap (4*a1.eG))))+32))),(u8 (IntKind.i64.wrap (a1.cQ+33))),(u8 (IntKind.i64.wrap (a1.Row+33)))]:S8)))) (aD:= []) (some 115) (.sS (tm 114)) (CZ (s:= [27,91,77,(u8 (IntKind.i64.wrap ((IntKind.i64.wrap (Fh+(IntKind.i64.wrap (4*a1.eG))))+32))),(u8 (IntKind.i64.wrap (a1.cQ+33))),(u8 (IntKind.i64.wrap (a1.Row+33)))]) ((congrArg (fJ _) (by kernel_rfl:bU _ (.tmp 114)=(.r (.aJ 920 1 0 (([27,91,77,(u8 (IntKind.i64.wrap ((IntKind.i64.wrap (Fh+(IntKind.i64.wrap (4*a1.eG))))+32))),(u8 (IntKind.i64.wrap (a1.cQ+33))),(u8 (IntKind.i64.wrap (a1.Row+33)))]:S8).length))))).trans (cX cH (e:=5) (k:=1) (xs:= [27,91,77,(u8 (IntKind.i64.wrap ((IntKind.i64.wrap (Fh+(IntKind.i64.wrap (4*a1.eG))))+32))),(u8 (IntKind.i64.wrap (a1.cQ+33))),(u8 (IntKind.i64.wrap (a1.Row+33)))]) (by kernel_rfl) rfl rfl)) rfl) (nL hS hQ))))))))))
 ·exact jR (agC hd hQ hS)
def an1(a1:cK)(a2:Int)(xB:Bool):St:=⟨(up (up u0 7 (dB xB)) 2 (pt 24)),(up h0 24 ⟨0,some (.box (xy a1))⟩)⟩
def KG(a1:cK)(a2:Int)(xB:Bool):Option (S8×Int):=(bif a1.Up then (bif (!xB) then (Fi a1 a2 xB 3) else (Fi a1 a2 xB a1.kO)) else (Fi a1 a2 xB a1.kO))
theorem N8(hd:1≤d){a1:cK}{a2:Int}{r:S8×Int}(hQ:FQ (Gp r) Q){xB:Bool}(hS:KG a1 a2 xB=some r): ∀st,au [2,7] [(24,.id 24)] [] st=an1 a1 a2 xB→ZX d Q aln [] st:=by
 intro st he
 refine ay he (zS (zL 3 (zK (aC (zS (zL 3 (sL 92 hS (fun hS=>?_) (fun hS=>?_))))))))
 ·refine zL 3 (zK (sR 95 hS (fun hS=>?_) (fun hS=>?_)))
  ·exact zT (a_ (zL 1 (zK (Fj hd hQ hS _ (by kernel_rfl)))))
  ·exact jR (Fj hd hQ hS)
 ·exact jL (Fj hd hQ hS)
def an2(a1:cK)(a2:Int)(Gq N9:Bool):St:=⟨(up (up (up (up u0 21 (dB N9)) 7 (dB Gq)) 2 (pt 24)) 1 (dI a2)),(up h0 24 ⟨0,some (.box (xy a1))⟩)⟩
def jh(a1:cK)(a2:Int)(Gq N9:Bool):Option (S8×Int):=(bif N9 then (some ([],1)) else (bif (decide ((cO .and .i64 a2 512)=0)) then (some ([],7)) else (bif (!Gq) then (bif (decide (94<a1.cQ)) then (some ([],2)) else (bif (decide (94<a1.Row)) then (some ([],2)) else (KG a1 a2 Gq))) else (KG a1 a2 Gq))))
theorem fu(hd:1≤d){a1:cK}{a2:Int}{r:S8×Int}(hQ:FQ (Gp r) Q){Gq N9:Bool}(hS:jh a1 a2 Gq N9=some r): ∀st,au [1,2,7,21] [(24,.id 24)] [] st=an2 a1 a2 Gq N9→ZX d Q awq [.blk 0,.seq aln] st:=by
 intro st he
 refine ay he (sR 21 hS (fun hS=>?_) (fun hS=>?_))
 ·exact nR hS hQ
 ·refine zF (zS (zL 2 (sB 74 hS (fun hS=>?_) (fun hS=>?_))))
  ·exact nL hS hQ
  ·refine zL 1 (zK (zF (zS (zL 3 (sL 78 hS (fun hS=>?_) (fun hS=>?_))))))
   ·refine zL 2 (sB 81 hS (fun hS=>?_) (fun hS=>?_))
    ·exact nL hS hQ
    ·refine zL 3 (sB 85 hS (fun hS=>?_) (fun hS=>?_))
     ·exact nL hS hQ
     ·exact jL (N8 hd hQ hS)
   ·exact jL (N8 hd hQ hS)
def an3(a1:cK)(a2:Int)(iD eF:Bool):St:=⟨(up (up (up (up u0 7 (dB eF)) 6 (dB iD)) 2 (pt 24)) 1 (dI a2)),(up h0 24 ⟨0,some (.box (xy a1))⟩)⟩
def KH(a1:cK)(a2:Int)(iD eF:Bool):Option (S8×Int):=(bif (!iD) then (bif (decide (a1.kO<0)) then (jh a1 a2 eF true) else (bif (decide (2<a1.kO)) then (jh a1 a2 eF true) else (bif (decide (a1.cQ<0)) then (jh a1 a2 eF true) else (bif (decide (1000<a1.cQ)) then (jh a1 a2 eF true) else (bif (decide (a1.Row<0)) then (jh a1 a2 eF true) else (bif (decide (1000<a1.Row)) then (jh a1 a2 eF true) else (bif (decide (a1.eG<0)) then (jh a1 a2 eF true) else (bif (decide (7<a1.eG)) then (jh a1 a2 eF true) else (bif a1.Up then (jh a1 a2 eF iD) else (jh a1 a2 eF false)))))))))) else (bif (decide (a1.cQ<0)) then (jh a1 a2 eF true) else (bif (decide (1000<a1.cQ)) then (jh a1 a2 eF true) else (bif (decide (a1.Row<0)) then (jh a1 a2 eF true) else (bif (decide (1000<a1.Row)) then (jh a1 a2 eF true) else (bif (decide (a1.eG<0)) then (jh a1 a2 eF true) else (bif (decide (7<a1.eG)) then (jh a1 a2 eF true) else (bif a1.Up then (jh a1 a2 eF iD) else (jh a1 a2 eF false)))))))))
theorem N_(hd:1≤d){a1:cK}{a2:Int}{r:S8×Int}(hQ:FQ (Gp r) Q){iD eF:Bool}(hS:KH a1 a2 iD eF=some r): ∀st,au [1,2,6,7] [(24,.id 24)] [] st=an3 a1 a2 iD eF→ZX d Q awu [] st:=by
 intro st he
 refine ay he (aC (bz (zS (zL 3 (sL 24 hS (fun hS=>?_) (fun hS=>?_))))))
 ·refine zL 2 (sB 27 hS (fun hS=>?_) (fun hS=>?_))
  ·exact zL 44 (zK (fu hd hQ hS _ (by kernel_rfl)))
  ·refine zL 3 (sB 31 hS (fun hS=>?_) (fun hS=>?_))
   ·exact zL 40 (zK (fu hd hQ hS _ (by kernel_rfl)))
   ·refine zL 5 (sB 37 hS (fun hS=>?_) (fun hS=>?_))
    ·exact zL 34 (zK (fu hd hQ hS _ (by kernel_rfl)))
    ·refine zL 4 (sB 42 hS (fun hS=>?_) (fun hS=>?_))
     ·exact zL 29 (zK (fu hd hQ hS _ (by kernel_rfl)))
     ·refine zL 4 (sB 47 hS (fun hS=>?_) (fun hS=>?_))
      ·exact zL 24 (zK (fu hd hQ hS _ (by kernel_rfl)))
      ·refine zL 4 (sB 52 hS (fun hS=>?_) (fun hS=>?_))
       ·exact zL 19 (zK (fu hd hQ hS _ (by kernel_rfl)))
       ·refine zL 4 (sB 57 hS (fun hS=>?_) (fun hS=>?_))
        ·exact zL 14 (zK (fu hd hQ hS _ (by kernel_rfl)))
        ·refine zL 4 (sB 62 hS (fun hS=>?_) (fun hS=>?_))
         ·exact zL 9 (zK (fu hd hQ hS _ (by kernel_rfl)))
         ·refine zL 5 (sL 67 hS (fun hS=>?_) (fun hS=>?_))
          ·exact zL 4 (zK (fu hd hQ hS _ (by kernel_rfl)))
          ·exact zL 4 (zK (fu hd hQ hS _ (by kernel_rfl)))
 ·refine zL 12 (sB 37 hS (fun hS=>?_) (fun hS=>?_))
  ·exact zL 34 (zK (fu hd hQ hS _ (by kernel_rfl)))
  ·refine zL 4 (sB 42 hS (fun hS=>?_) (fun hS=>?_))
   ·exact zL 29 (zK (fu hd hQ hS _ (by kernel_rfl)))
   ·refine zL 4 (sB 47 hS (fun hS=>?_) (fun hS=>?_))
    ·exact zL 24 (zK (fu hd hQ hS _ (by kernel_rfl)))
    ·refine zL 4 (sB 52 hS (fun hS=>?_) (fun hS=>?_))
     ·exact zL 19 (zK (fu hd hQ hS _ (by kernel_rfl)))
     ·refine zL 4 (sB 57 hS (fun hS=>?_) (fun hS=>?_))
      ·exact zL 14 (zK (fu hd hQ hS _ (by kernel_rfl)))
      ·refine zL 4 (sB 62 hS (fun hS=>?_) (fun hS=>?_))
       ·exact zL 9 (zK (fu hd hQ hS _ (by kernel_rfl)))
       ·refine zL 5 (sL 67 hS (fun hS=>?_) (fun hS=>?_))
        ·exact zL 4 (zK (fu hd hQ hS _ (by kernel_rfl)))
        ·exact jL (fu hd hQ hS)
def an4(a1:cK)(a2:Int)(fe:Bool):St:=⟨(up (up (up u0 6 (dB fe)) 2 (pt 24)) 1 (dI a2)),(up h0 24 ⟨0,some (.box (xy a1))⟩)⟩
def Fk(a1:cK)(a2:Int)(fe:Bool):Option (S8×Int):=(bif (!decide ((cO .and .i64 a2 1024)=0)) then (KH a1 a2 fe true) else (KH a1 a2 fe false))
theorem Fl(hd:1≤d){a1:cK}{a2:Int}{r:S8×Int}(hQ:FQ (Gp r) Q){fe:Bool}(hS:Fk a1 a2 fe=some r): ∀st,au [1,2,6] [(24,.id 24)] [] st=an4 a1 a2 fe→ZX d Q awv [] st:=by
 intro st he
 refine ay he (zS (zL 2 (sB 20 hS (fun hS=>?_) (fun hS=>?_))))
 ·exact zL 1 (zK (N_ hd hQ hS _ (by kernel_rfl)))
 ·exact jL (N_ hd hQ hS)
def f9(a1:cK)(a2:Int):Option (S8×Int):=(bif (decide (a1.kO=64)) then (Fk a1 a2 true) else (bif (decide (a1.kO=65)) then (Fk a1 a2 true) else (Fk a1 a2 false)))
theorem an5{d:Nat}(hd:1≤d){a1:cK}{a2:Int}{r:S8×Int}(hS:f9 a1 a2=some r):bW av aX d 9 [(.agg (xy a1)),(dI a2)] []=some ((.bE [(.d (.str r.1)),(dI r.2)]),[]):=by
 refine cL Gp hd (fun Q hQ=>?_) atJ
 refine zS (zL 3 (zK (zS (zL 2 (sB 12 hS (fun hS=>?_) (fun hS=>?_))))))
 ·exact zL 6 (zK (Fl hd hQ hS _ (by kernel_rfl)))
 ·refine zL 3 (sB 16 hS (fun hS=>?_) (fun hS=>?_))
  ·exact zL 2 (zK (Fl hd hQ hS _ (by kernel_rfl)))
  ·exact jL (Fl hd hQ hS)
end
end Go.Proofs.YtimbfadnabfabaaGreatDoor.Pm
