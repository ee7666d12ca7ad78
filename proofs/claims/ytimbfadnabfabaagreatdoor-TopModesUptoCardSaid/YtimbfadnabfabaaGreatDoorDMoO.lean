/- Typed functions, and that the codes are these. Printed by dec.py. -/
import Derived.Test.YtimbfadnabfabaaGreatDoorDMoN
namespace Go.Proofs.YtimbfadnabfabaaGreatDoor.Pm
noncomputable section
set_option maxRecDepth 1000000
set_option maxHeartbeats 20000000
set_option linter.unusedVariables false
set_option linter.unusedSimpArgs false
variable {d : Nat} {Q : PQ} {st : St}
/- (*farwriter/client.worker).do -/
def azL(r:bf×Int)(e:PX)(st:St):Prop:=aV c15 1 ((dI r.2),[(vn r.1)]) e st
def f15(a1:fT)(a2:bf):Option (bf×Int):=(bif (decide (a1.Kind=1)) then none else (bif (decide (a1.Kind=2)) then ((f8 a1.Key a2.Client.af.dO).bind fun z5=>((f42 z5.1 z5.2 a2).bind fun z6=>(some (z6.1,z6.2)))) else (bif (decide (a1.Kind=4)) then none else (bif (decide (a1.Kind=3)) then ((f9 a1.kE a2.Client.af.dO).bind fun z7=>(bif (decide (z7.2=0)) then ((f44 z7.1 a2).bind fun z8=>(some (z8,z7.2))) else (some (a2,z7.2)))) else (bif (decide (a1.Kind=5)) then none else (bif (decide (a1.Kind=6)) then none else (some (a2,1))))))))
theorem auV{d:Nat}(hd:15≤d){a1:fT}{a2:bf}{r:bf×Int}(hS:f15 a1 a2=some r):bW av aX d 15 [(pt 0),(av8 a1)] [(vn a2)]=some ((dI r.2),[(vn r.1)]):=by
 refine cL azL hd (fun Q hQ=>?_) als
 refine zS (zL 2 (zK (zS (zL 7 (zK (aC (zS (zL 2 (zK (bz (zS (sB 22 hS (fun hS=>?_) (fun hS=>?_)))))))))))))
 ·cases hS
 ·refine zL 1 (zK (zF (zS (sB 28 hS (fun hS=>?_) (fun hS=>?_)))))
  ·exact zL 1 (zK (zT (zS (zL 4 (aq hS (fun z5 jZ hS=>zC 33 (amY (aU hd rfl) jZ) (zL 2 (aq hS (fun z6 nH hS=>fS 36 [0] (auU (aU hd rfl) nH) (nL hS hQ))))))))))
  ·refine zL 1 (zK (zF (zS (sB 38 hS (fun hS=>?_) (fun hS=>?_)))))
   ·cases hS
   ·refine zL 1 (zK (zF (zS (sB 48 hS (fun hS=>?_) (fun hS=>?_)))))
    ·refine zL 1 (zK (zT (zS (zL 3 (aq hS (fun z7 l8 hS=>zC 53 (an5 (aU hd rfl) l8) (zL 5 (zK (aC (zS (zL 1 (sB 57 hS (fun hS=>?_) (fun hS=>?_)))))))))))))
     ·exact zK (zT (a_ (zL 2 (aq hS (fun z8 je hS=>fS 60 [0] (QI (aU hd rfl) je) (nL hS hQ))))))
     ·exact nL hS hQ
    ·refine zL 1 (zK (zF (zS (sB 63 hS (fun hS=>?_) (fun hS=>?_)))))
     ·cases hS
     ·refine zL 1 (zK (zF (zS (sB 90 hS (fun hS=>?_) (fun hS=>?_)))))
      ·cases hS
      ·exact nL hS hQ
/- farwriter/client.Do -/
def an6(r:bg×S8×Int)(e:PX)(st:St):Prop:=aV c5 0 ((.bE [(k5 r.1),(.d (.str r.2.1)),(dI r.2.2)]),[]) e st
def an7(a1:bg)(a2:fT)(jJ:bf):St:=⟨(up (up u0 8 (pt 168)) 4 (pt 40)),(up (up h0 168 ⟨0,some (vn jJ)⟩) 40 kV)⟩
def QV(a1:bg)(a2:fT)(jJ:bf):Option (bg×S8×Int):=(some (jJ.Client,jJ.sent,0))
theorem agE(hd:16≤d){a1:bg}{a2:fT}{r:bg×S8×Int}(hQ:FQ (an6 r) Q){jJ:bf}(hS:QV a1 a2 jJ=some r): ∀st,au [4,8] [(40,.id 40),(168,.id 168)] [] st=an7 a1 a2 jJ→ZX d Q aww [] st:=by
 intro st he
 exact ay he (nR hS hQ)
def an8(a1:bg)(a2:fT):St:=⟨(up (up (up u0 4 (pt 40)) 3 (pt 32)) 2 (pt 24)),(up (up (up h0 40 kV) 32 ⟨0,some (.box (Wb a2 (dL a2.Runes)))⟩) 24 (av9 a1))⟩
def KI(a1:bg)(a2:fT):Option (bg×S8×Int):=((f14 a1).bind fun z8=>((f15 a2 (bf.mk z8 ([]))).bind fun cS=>(bif (!decide (cS.2=0)) then ((f14 a1).bind fun z12=>(some (z12,[],cS.2))) else (QV a1 a2 cS.1))))
theorem agF(hd:16≤d){a1:bg}{a2:fT}{r:bg×S8×Int}(hQ:FQ (an6 r) Q)(hS:KI a1 a2=some r): ∀st,au [2,3,4] [(24,.id 24),(32,.id 32),(40,.id 40)] [.cell 40 14 0 0 1,.cell 40 42 0 0 1,.cell 40 44 0 0 1,.cell 40 565 0 0 1,.cell 40 567 0 0 1] st=an8 a1 a2→ZX d Q awx [] st:=by
 intro st he
 refine ay he (zS (zL 1 (aq hS (fun z8 je hS=>zO (v:=(k5 z8)) (aD:= []) (some 18) (.jd 14 [(tm 17)]) (iT (args:= [(k5 a1)]) (args':= [(k5 a1)]) (l:= [(k5 a1)]) (refs:= []) (r:=(k5 z8)) (v:=(k5 z8)) (nJ:= []) (by kernel_rfl) (by kernel_rfl) (by kernel_rfl) (gM rfl lQ) (by kernel_rfl) (Qz (aU hd rfl) je) (by kernel_rfl) (by kernel_rfl) (by kernel_rfl) (by kernel_rfl)) (zL 3 (zK (aC (zS (zL 2 (aq hS (fun cS kf hS=>fS 23 [168] (auV (aU hd rfl) kf) (zL 1 (zK (zS (zL 1 (sB 25 hS (fun hS=>?_) (fun hS=>?_)))))))))))))))))
 ·exact zK (zT (zS (zL 1 (aq hS (fun z12 gO hS=>zO (v:=(k5 z12)) (aD:= []) (some 27) (.jd 14 [(tm 26)]) (iT (args:= [(k5 a1)]) (args':= [(k5 a1)]) (l:= [(k5 a1)]) (refs:= []) (r:=(k5 z12)) (v:=(k5 z12)) (nJ:= []) (by kernel_rfl) (by kernel_rfl) (by kernel_rfl) (gM rfl lQ) (by kernel_rfl) (Qz (aU hd rfl) gO) (by kernel_rfl) (by kernel_rfl) (by kernel_rfl) (by kernel_rfl)) (nL hS hQ))))))
 ·exact jL (agE hd hQ hS)
def f5(a1:bg)(a2:fT):Option (bg×S8×Int):=((f7 a1).bind fun dP=>(bif (!decide (dP=0)) then ((f14 a1).bind fun dU=>(some (dU,[],dP))) else (KI a1 a2)))
theorem an9{d:Nat}(hd:16≤d){a1:bg}{a2:fT}{r:bg×S8×Int}(hS:f5 a1 a2=some r):bW av aX d 5 [(k5 a1),(av8 a2)] []=some ((.bE [(k5 r.1),(.d (.str r.2.1)),(dI r.2.2)]),[]):=by
 refine cL an6 hd (fun Q hQ=>?_) atG
 refine zS (zL 5 (zK (aC (zS (zL 1 (aq hS (fun dP jn hS=>zC 11 (amG (aU hd rfl) jn) (zL 1 (zK (zS (zL 1 (sB 13 hS (fun hS=>?_) (fun hS=>?_)))))))))))))
 ·exact zK (zT (zS (zL 1 (aq hS (fun dU kg hS=>zO (v:=(k5 dU)) (aD:= []) (some 15) (.jd 14 [(tm 14)]) (iT (args:= [(k5 a1)]) (args':= [(k5 a1)]) (l:= [(k5 a1)]) (refs:= []) (r:=(k5 dU)) (v:=(k5 dU)) (nJ:= []) (by kernel_rfl) (by kernel_rfl) (by kernel_rfl) (gM rfl lQ) (by kernel_rfl) (Qz (aU hd rfl) kg) (by kernel_rfl) (by kernel_rfl) (by kernel_rfl) (by kernel_rfl)) (nL hS hQ))))))
 ·exact jL (agF hd hQ hS)
/- farwriter/fartop.lives -/
theorem Em{d:Nat}(hd:0≤d){r:Bool}(hS:oc=some r):bW av aX d 6 [] []=some ((dB r),[]):=oa (l:=libs) rfl rfl rfl (aiu hS) d
/- farwriter/fartop.TopModes -/
def acL(r:Bool)(e:PX)(st:St):Prop:=aV c3 0 ((dB r),[]) e st
def an_(a1:bg)(a2:dW)(a3:cK)(mO:S8)(gu:Int)(iJ:S8)(fe:Int)(gP:Bool):St:=⟨(up (up (up (up (up (up (up (up u0 13 (dB gP)) 12 (dI fe)) 11 (.d (.str iJ))) 9 (dI gu)) 8 (.d (.str mO))) 5 (pt 48)) 4 (pt 40)) 3 (pt 32)),(up (up (up h0 48 ⟨0,some (.box (xy a3))⟩) 40 (xA a2)) 32 ⟨0,some (.box (oW ({a1 with lF:=false}) (iA a1.af) (jH a1.af) (fU a1.af) (dE dM a1.bL.Names) (dE cW a1.Vars)))⟩)⟩
def KJ(a1:bg)(a2:dW)(a3:cK)(mO:S8)(gu:Int)(iJ:S8)(fe:Int)(gP:Bool):Option (Bool):=((f8 a2 a1.af.dO).bind fun fC=>((f9 a3 a1.af.dO).bind fun fD=>(bif (decide (gu=fC.2)) then (bif (decide (fe=fD.2)) then ((f11 fC.1 gP).bind fun gy=>((f10 gy).bind fun z20=>(bif (decide (mO=z20)) then ((f11 fD.1 gP).bind fun z21=>((f10 z21).bind fun z22=>(bif (decide (iJ=z22)) then (some true) else (some false)))) else (some false)))) else (some false)) else (some false))))
theorem Oa(hd:17≤d){a1:bg}{a2:dW}{a3:cK}{r:Bool}(hQ:FQ (acL r) Q){mO:S8}{gu:Int}{iJ:S8}{fe:Int}{gP:Bool}(hS:KJ a1 a2 a3 mO gu iJ fe gP=some r): ∀st,au [3,4,5,8,9,11,12,13] [(32,.id 32),(40,.id 40),(48,.id 48)] [] st=an_ a1 a2 a3 mO gu iJ fe gP→ZX d Q awz [] st:=by
 intro st he
 refine ay he (zS (zL 4 (aq hS (fun fC ke hS=>zC 61 (amY (aU hd rfl) ke) (zL 5 (zK (zS (zL 4 (aq hS (fun fD lJ hS=>zC 69 (an5 (aU hd rfl) lJ) (zL 5 (zK (zS (zL 2 (sB 74 hS (fun hS=>?_) (fun hS=>?_))))))))))))))))
 ·refine zL 3 (sB 78 hS (fun hS=>?_) (fun hS=>?_))
  ·refine zL 5 (aq hS (fun gy nM hS=>zG (some 84) 80 true (.call 11 [(tm 82),(tm 83)]) (bX (QG (aU hd rfl) nM)) (aq hS (fun z20 nN hS=>zG (some 85) 80 true (c1 10 84) (bX (QH (aU hd rfl) nN)) (sB 86 hS (fun hS=>?_) (fun hS=>?_))))))
   ·refine zL 5 (aq hS (fun z21 nc hS=>zG (some 92) 88 true (.call 11 [(tm 90),(tm 91)]) (bX (QG (aU hd rfl) nc)) (aq hS (fun z22 AK hS=>zG (some 93) 88 true (c1 10 92) (bX (QH (aU hd rfl) AK)) (sB 94 hS (fun hS=>?_) (fun hS=>?_))))))
    ·exact nL hS hQ
    ·exact nL hS hQ
   ·exact nL hS hQ
  ·exact nL hS hQ
 ·exact nL hS hQ
def aoa(a1:bg)(a2:dW)(a3:cK)(tI:S8)(uk:Int)(kQ:S8)(dZ:Int):St:=⟨(up (up (up (up (up (up (up u0 12 (dI dZ)) 11 (.d (.str kQ))) 9 (dI uk)) 8 (.d (.str tI))) 5 (pt 48)) 4 (pt 40)) 3 (pt 32)),(up (up (up h0 48 ⟨0,some (.box (xy a3))⟩) 40 (xA a2)) 32 ⟨0,some (.box (oW ({a1 with lF:=false}) (iA a1.af) (jH a1.af) (fU a1.af) (dE dM a1.bL.Names) (dE cW a1.Vars)))⟩)⟩
def QW(a1:bg)(a2:dW)(a3:cK)(tI:S8)(uk:Int)(kQ:S8)(dZ:Int):Option (Bool):=(bif (decide (((a1.Neg.Us 0).toNat:Int)=1)) then (KJ a1 a2 a3 tI uk kQ dZ true) else (KJ a1 a2 a3 tI uk kQ dZ false))
theorem agG(hd:17≤d){a1:bg}{a2:dW}{a3:cK}{r:Bool}(hQ:FQ (acL r) Q){tI:S8}{uk:Int}{kQ:S8}{dZ:Int}(hS:QW a1 a2 a3 tI uk kQ dZ=some r): ∀st,au [3,4,5,8,9,11,12] [(32,.id 32),(40,.id 40),(48,.id 48)] [] st=aoa a1 a2 a3 tI uk kQ dZ→ZX d Q alo [] st:=by
 intro st he
 refine ay he (zS (zL 4 (sB 55 hS (fun hS=>?_) (fun hS=>?_))))
 ·exact zL 1 (zK (Oa hd hQ hS _ (by kernel_rfl)))
 ·exact jL (Oa hd hQ hS)
def aob(a1:bg)(a2:dW)(a3:cK)(eF ic:Int):St:=⟨(up (up u0 12 (dI ic)) 9 (dI eF)),h0⟩
def QX(a1:bg)(a2:dW)(a3:cK)(eF ic:Int):Option (Bool):=(oc.bind fun z25=>(bif z25 then (bif (decide (eF=4)) then (bif (decide (ic=4)) then (some true) else (some false)) else (some false)) else (some false)))
theorem Ob(hd:17≤d){a1:bg}{a2:dW}{a3:cK}{r:Bool}(hQ:FQ (acL r) Q){eF ic:Int}(hS:QX a1 a2 a3 eF ic=some r): ∀st,au [9,12] [] [] st=aob a1 a2 a3 eF ic→ZX d Q awy [.seq alo] st:=by
 intro st he
 refine ay he (zS (aq hS (fun z25 rQ hS=>zC 42 (Em (aU hd rfl) rQ) (zL 1 (sL 43 hS (fun hS=>?_) (fun hS=>?_))))))
 ·refine zL 1 (sB 45 hS (fun hS=>?_) (fun hS=>?_))
  ·refine zL 3 (sB 49 hS (fun hS=>?_) (fun hS=>?_))
   ·exact nL hS hQ
   ·exact nL hS hQ
  ·exact nL hS hQ
 ·exact nL hS hQ
def f3(a1:bg)(a2:dW)(a3:cK):Option (Bool):=((f5 ({a1 with lF:=false}) (fT.mk 2 ([]) a2 (cK.mk 0 0 0 0 false) ([]) 0 0 false 0 false)).bind fun z12=>((f5 ({a1 with lF:=false}) (fT.mk 3 ([]) (dW.mk 0 0 0) a3 ([]) 0 0 false 0 false)).bind fun dP=>(oc.bind fun z26=>(bif (!z26) then (QX a1 a2 a3 z12.2.2 dP.2.2) else ((f7 ({a1 with lF:=false})).bind fun tL=>(bif (!decide (tL=0)) then (QX a1 a2 a3 z12.2.2 dP.2.2) else (QW a1 a2 a3 z12.2.1 z12.2.2 dP.2.1 dP.2.2)))))))
theorem azM{d:Nat}(hd:17≤d){a1:bg}{a2:dW}{a3:cK}{r:Bool}(hS:f3 a1 a2 a3=some r):bW av aX d 3 [(k5 a1),(.agg ((dI a2.Name)::((dI a2.eC)::((dI a2.eG):: [])))),(.agg (xy a3))] []=some ((dB r),[]):=by
 refine cL acL hd (fun Q hQ=>?_) atF
 refine zS (zL 4 (zK (zS (zL 2 (zK (zS (zL 3 (aq hS (fun z12 gO hS=>zO (v:=(.bE [(k5 z12.1),(.d (.str z12.2.1)),(dI z12.2.2)])) (aD:= []) (some 23) (.jd 5 [(tm 20),(tm 22)]) (iT (args:= [(q4_ a1),(awa a2)]) (args':= [(q4_ a1),(awa a2)]) (l:= [(q4_ a1),(.agg ((dI 2)::((.d (.str ([])))::((dI a2.Name)::((dI a2.eC)::((dI a2.eG)::((dI 0)::((dI 0)::((dI 0)::((dI 0)::((dB false)::((.d (.sl ([]:List Int).length (eI.cells ([]))))::((dI 0)::((dI 0)::((dB false)::((dI 0)::((dB false):: [])))))))))))))))))]) (refs:= []) (r:=(.bE [(k5 z12.1),(.d (.str z12.2.1)),(dI z12.2.2)])) (v:=(.bE [(k5 z12.1),(.d (.str z12.2.1)),(dI z12.2.2)])) (nJ:= []) (by kernel_rfl) (by kernel_rfl) (by kernel_rfl) (gM rfl (gM rfl lQ)) (by kernel_rfl) (an9 (aU hd rfl) gO) (by kernel_rfl) (by kernel_rfl) (by kernel_rfl) (by kernel_rfl)) (zL 8 (zK (zS (zL 3 (aq hS (fun dP jn hS=>zO (v:=(.bE [(k5 dP.1),(.d (.str dP.2.1)),(dI dP.2.2)])) (aD:= []) (some 31) (.jd 5 [(tm 28),(tm 30)]) (iT (args:= [(q4_ a1),(av_ a3)]) (args':= [(q4_ a1),(av_ a3)]) (l:= [(q4_ a1),(.agg ((dI 3)::((.d (.str ([])))::((dI 0)::((dI 0)::((dI 0)::((dI a3.kO)::((dI a3.cQ)::((dI a3.Row)::((dI a3.eG)::((dB a3.Up)::((.d (.sl ([]:List Int).length (eI.cells ([]))))::((dI 0)::((dI 0)::((dB false)::((dI 0)::((dB false):: [])))))))))))))))))]) (refs:= []) (r:=(.bE [(k5 dP.1),(.d (.str dP.2.1)),(dI dP.2.2)])) (v:=(.bE [(k5 dP.1),(.d (.str dP.2.1)),(dI dP.2.2)])) (nJ:= []) (by kernel_rfl) (by kernel_rfl) (by kernel_rfl) (gM rfl (gM rfl lQ)) (by kernel_rfl) (an9 (aU hd rfl) jn) (by kernel_rfl) (by kernel_rfl) (by kernel_rfl) (by kernel_rfl)) (zL 8 (zK (aC (zS (aq hS (fun z26 rH hS=>zC 35 (Em (aU hd rfl) rH) (zL 2 (sL 37 hS (fun hS=>?_) (fun hS=>?_))))))))))))))))))))))))
 ·exact zL 4 (zK (zT (Ob hd hQ hS _ (by kernel_rfl))))
 ·refine zL 1 (aq hS (fun tL acH hS=>zG (some 39) 37 false (c1 7 38) (bX (amG (aU hd rfl) acH)) (sB 40 hS (fun hS=>?_) (fun hS=>?_))))
  ·exact zL 1 (zK (zT (Ob hd hQ hS _ (by kernel_rfl))))
  ·exact jL (agG hd hQ hS)
end
end Go.Proofs.YtimbfadnabfabaaGreatDoor.Pm
