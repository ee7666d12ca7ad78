/- Typed functions, and that the codes are these. Printed by dec.py. -/
import Derived.Test.YtimbfadnabfabaaGreatDoorDMoN
namespace Go.Proofs.YtimbfadnabfabaaGreatDoor.Pm
noncomputable section
set_option maxRecDepth 1000000
set_option maxHeartbeats 20000000
set_option linter.unusedVariables false
set_option linter.unusedSimpArgs false
variable {d : Nat} {Q : PQ} {st : St}
/- (*farwriter/client.worker).do -/
def aAZ(r:bf×Int)(e:PX)(st:St):Prop:=aU c15 1 ((dI r.2),[(wK r.1)]) e st
def f15(a1:iC)(a2:bf):Option (bf×Int):=(bif (decide (a1.Kind=1)) then none else (bif (decide (a1.Kind=2)) then ((f8 a1.Key a2.Client.af.eE).bind fun z5=>((f42 z5.1 z5.2 a2).bind fun z6=>(some (z6.1,z6.2)))) else (bif (decide (a1.Kind=4)) then none else (bif (decide (a1.Kind=3)) then ((f9 a1.oI a2.Client.af.eE).bind fun z7=>(bif (decide (z7.2=0)) then ((f44 z7.1 a2).bind fun z8=>(some (z8,z7.2))) else (some (a2,z7.2)))) else (bif (decide (a1.Kind=5)) then none else (bif (decide (a1.Kind=6)) then none else (some (a2,1))))))))
theorem awQ{d:Nat}(hd:15≤d){a1:iC}{a2:bf}{r:bf×Int}(hS:f15 a1 a2=some r):bZ ay aX d 15 [(pt 0),(ax3 a1)] [(wK a2)]=some ((dI r.2),[(wK r.1)]):=by
 refine cI hd (fun Q hQ=>?_) aoa
 unfold f15 at hS
 show ZR _ Q anS [] _
 replace hQ:FQ (aAZ r) Q:=hQ
 refine zS (zL 2 (zK (zS (zL 7 (zK (aC (zS (zL 2 (zK (bw (zS (sB 22 hS (fun hS=>?_) (fun hS=>?_)))))))))))))
 ·cases hS
 ·refine zL 1 (zK (zF (zS (sB 28 hS (fun hS=>?_) (fun hS=>?_)))))
  ·exact zL 1 (zK (zT (zS (zL 4 (aq hS (fun z5 jQ hS=>zC 33 (aAM (aV hd rfl) jQ) (zL 2 (aq hS (fun z6 l9 hS=>fW 36 [0] (awP (aV hd rfl) l9) (nL hS hQ))))))))))
  ·refine zL 1 (zK (zF (zS (sB 38 hS (fun hS=>?_) (fun hS=>?_)))))
   ·cases hS
   ·refine zL 1 (zK (zF (zS (sB 48 hS (fun hS=>?_) (fun hS=>?_)))))
    ·refine zL 1 (zK (zT (zS (zL 3 (aq hS (fun z7 kO hS=>zC 53 (aAY (aV hd rfl) kO) (zL 5 (zK (aC (zS (zL 1 (sB 57 hS (fun hS=>?_) (fun hS=>?_)))))))))))))
     ·exact zK (zT (a_ (zL 2 (aq hS (fun z8 iW hS=>fW 60 [0] (Re (aV hd rfl) iW) (nL hS hQ))))))
     ·exact nL hS hQ
    ·refine zL 1 (zK (zF (zS (sB 63 hS (fun hS=>?_) (fun hS=>?_)))))
     ·cases hS
     ·refine zL 1 (zK (zF (zS (sB 90 hS (fun hS=>?_) (fun hS=>?_)))))
      ·cases hS
      ·exact nL hS hQ
/- farwriter/client.Do -/
def aqS(r:bh×S8×Int)(e:PX)(st:St):Prop:=aU c5 0 ((.bH [(lQ r.1),(.d (.str r.2.1)),(dI r.2.2)]),[]) e st
def aqT(a1:bh)(a2:iC)(ig:bf):St:=⟨(up (up u0 8 (pt 168)) 4 (pt 40)),(up (up h0 168 ⟨0,some (wK ig)⟩) 40 lB)⟩
def Ro(a1:bh)(a2:iC)(ig:bf):Option (bh×S8×Int):=(some (ig.Client,ig.sent,0))
theorem aie(hd:16≤d){a1:bh}{a2:iC}{r:bh×S8×Int}(hQ:FQ (aqS r) Q){ig:bf}(hS:Ro a1 a2 ig=some r): ∀st,au [4,8] [(40,.id 40),(168,.id 168)] [] st=aqT a1 a2 ig→ZX d Q ayr [] st:=by
 intro st he
 refine av he ?_
 unfold Ro at hS
 exact nR hS hQ
def aqU(a1:bh)(a2:iC):St:=⟨(up (up (up u0 4 (pt 40)) 3 (pt 32)) 2 (pt 24)),(up (up (up h0 40 lB) 32 ⟨0,some (.box (WK a2 (dL a2.Runes)))⟩) 24 (aki a1))⟩
def Lt(a1:bh)(a2:iC):Option (bh×S8×Int):=((f14 a1).bind fun z8=>((f15 a2 (bf.mk z8 ([]))).bind fun cM=>(bif (!decide (cM.2=0)) then ((f14 a1).bind fun z12=>(some (z12,[],cM.2))) else (Ro a1 a2 cM.1))))
theorem aif(hd:16≤d){a1:bh}{a2:iC}{r:bh×S8×Int}(hQ:FQ (aqS r) Q)(hS:Lt a1 a2=some r): ∀st,au [2,3,4] [(24,.id 24),(32,.id 32),(40,.id 40)] [.cell 40 14 0 0 1,.cell 40 42 0 0 1,.cell 40 44 0 0 1,.cell 40 565 0 0 1,.cell 40 567 0 0 1] st=aqU a1 a2→ZX d Q ays [] st:=by
 intro st he
 refine av he ?_
 unfold Lt at hS
 refine zS (zL 1 (aq hS (fun z8 iW hS=>zO (v:=(lQ z8)) (aD:= []) (some 18) (.jn 14 [(tm 17)]) (ja (args:= [(lQ a1)]) (args':= [(lQ a1)]) (l:= [(lQ a1)]) (refs:= []) (r:=(lQ z8)) (v:=(lQ z8)) (od:= []) (by kernel_rfl) (by kernel_rfl) (by kernel_rfl) (gR rfl mj) (by kernel_rfl) (Q7 (aV hd rfl) iW) (by kernel_rfl) (by kernel_rfl) (by kernel_rfl) (by kernel_rfl)) (zL 3 (zK (aC (zS (zL 2 (aq hS (fun cM jN hS=>fW 23 [168] (awQ (aV hd rfl) jN) (zL 1 (zK (zS (zL 1 (sB 25 hS (fun hS=>?_) (fun hS=>?_))))))))))))))))
 ·exact zK (zT (zS (zL 1 (aq hS (fun z12 gG hS=>zO (v:=(lQ z12)) (aD:= []) (some 27) (.jn 14 [(tm 26)]) (ja (args:= [(lQ a1)]) (args':= [(lQ a1)]) (l:= [(lQ a1)]) (refs:= []) (r:=(lQ z12)) (v:=(lQ z12)) (od:= []) (by kernel_rfl) (by kernel_rfl) (by kernel_rfl) (gR rfl mj) (by kernel_rfl) (Q7 (aV hd rfl) gG) (by kernel_rfl) (by kernel_rfl) (by kernel_rfl) (by kernel_rfl)) (nL hS hQ))))))
 ·exact jL (aie hd hQ hS)
def f5(a1:bh)(a2:iC):Option (bh×S8×Int):=((f7 a1).bind fun dX=>(bif (!decide (dX=0)) then ((f14 a1).bind fun dR=>(some (dR,[],dX))) else (Lt a1 a2)))
theorem aqV{d:Nat}(hd:16≤d){a1:bh}{a2:iC}{r:bh×S8×Int}(hS:f5 a1 a2=some r):bZ ay aX d 5 [(lQ a1),(ax3 a2)] []=some ((.bH [(lQ r.1),(.d (.str r.2.1)),(dI r.2.2)]),[]):=by
 refine cI hd (fun Q hQ=>?_) avC
 unfold f5 at hS
 show ZR _ Q ayt [] _
 replace hQ:FQ (aqS r) Q:=hQ
 refine zS (zL 5 (zK (aC (zS (zL 1 (aq hS (fun dX iU hS=>zC 11 (aAE (aV hd rfl) iU) (zL 1 (zK (zS (zL 1 (sB 13 hS (fun hS=>?_) (fun hS=>?_)))))))))))))
 ·exact zK (zT (zS (zL 1 (aq hS (fun dR kz hS=>zO (v:=(lQ dR)) (aD:= []) (some 15) (.jn 14 [(tm 14)]) (ja (args:= [(lQ a1)]) (args':= [(lQ a1)]) (l:= [(lQ a1)]) (refs:= []) (r:=(lQ dR)) (v:=(lQ dR)) (od:= []) (by kernel_rfl) (by kernel_rfl) (by kernel_rfl) (gR rfl mj) (by kernel_rfl) (Q7 (aV hd rfl) kz) (by kernel_rfl) (by kernel_rfl) (by kernel_rfl) (by kernel_rfl)) (nL hS hQ))))))
 ·exact jL (aif hd hQ hS)
/- farwriter/farkeep.clientLives -/
theorem E3{d:Nat}(hd:0≤d){r:Bool}(hS:oG=some r):bZ ay aX d 12 [] []=some ((dB r),[]):=oF (l:=libs) rfl rfl rfl (aj9 hS) d
/- slices.Equal[[]farwriter/api.Cell,farwriter/api.Cell] -/
def U9(ig:Bool):St:=⟨(up u0 4 (dB ig)),h0⟩
theorem aqW{ig:Bool}:cN (U9 ig) 0 Xd.res=some ((dB ig),[]):=by
 kernel_rfl
def aqX(r:Bool)(e:PX)(st:St):Prop:=aU Xd 0 ((dB r),[]) e st
def aih(a1 a2:List ah)(x:Int):St:=⟨(up (up (up (up u0 13 (dI x)) 12 (dI (a1.length:Int))) 1 (dE aj a2)) 0 (dE aj a1)),h0⟩
def vV(a1 a2:List ah)(x:Int)(st:St):Prop:=au [0,1,12,13] [] [] st=aih a1 a2 x
def E4(a1 a2:List ah):St:=⟨u0,h0⟩
def A_(a1 a2:List ah)(z:Unit⊕Bool)(e:PX)(st:St):Prop:=(match z with | .inl z=>e= .exit 0∧st=E4 a1 a2 | .inr z=>e= .ret∧dV Xd.fin st=U9 z)
def Rp(a1 a2:List ah)(fI:Int):St:=⟨(up (up (up (up u0 13 (dI fI)) 12 (dI (a1.length:Int))) 1 (dE aj a2)) 0 (dE aj a1)),h0⟩
def xH(a1 a2:List ah)(fI:Int):Option (Int⊕(Unit⊕Bool)):=((idx a1 fI).bind fun z7=>((idx a2 fI).bind fun z8=>(bif (!(decide (z7.eB=z8.eB)&&(decide (z7.bP.Flags=z8.bP.Flags)&&(decide (z7.bP.dP=z8.bP.dP)&&(decide (z7.bP.dm=z8.bP.dm)&&true))))) then (some (.inr (.inr false))) else (some (.inl (IntKind.i64.wrap (fI+1)))))))
theorem M8(hd:1≤d){a1 a2:List ah}{r:Int⊕(Unit⊕Bool)}(hQ:FQ (bG (vV a1 a2) (A_ a1 a2) r) Q){fI:Int}(hS:xH a1 a2 fI=some r): ∀st,au [0,1,12,13] [] [] st=Rp a1 a2 fI→ZX d Q anT [] st:=by
 intro st he
 refine av he ?_
 unfold xH at hS
 refine aC (bw (zS (zL 2 (zK (aC (cG (cy 2 (aq hS (fun z7 kO hS=>di (v:=(.cD (aj.enc z7++(aj.cells (a1.drop ((fI:Int).toNat+1)))))) (aD:= []) (some 18) none (.jc 87 4 (tm 16) (tm 17)) (eY aj (kk:= .i64) (xs:=a1) (j:=fI) (by kernel_rfl) (by kernel_rfl) kO rfl (by intro h;cases h)) (cy 3 (aq hS (fun z8 iW hS=>di (v:=(.cD (aj.enc z8++(aj.cells (a2.drop ((fI:Int).toNat+1)))))) (aD:= []) (some 22) none (.jc 87 4 (tm 20) (tm 21)) (eY aj (kk:= .i64) (xs:=a2) (j:=fI) (by kernel_rfl) (by kernel_rfl) iW rfl (by intro h;cases h)) (cy 1 (JY 24 none (.L9 .true [(4,.int)] (tm 19) (tm 23)) hS (fun hS=>?_) (fun hS=>?_)))))))))))))))
 ·exact fG (cq (zT (zS (zL 1 (zK (cL (cj (bQ (bg (mG hS hQ))))))))))
 ·exact fG (lK hS hQ)
def Rq(a1 a2:List ah)(iM:Int)(kg:Bool):St:=⟨(up (up (up (up (up u0 14 (dB kg)) 13 (dI iM)) 12 (dI (a1.length:Int))) 1 (dE aj a2)) 0 (dE aj a1)),h0⟩
def pF(a1 a2:List ah)(iM:Int)(kg:Bool):Option (Int⊕(Unit⊕Bool)):=(bif kg then (xH a1 a2 iM) else (some (.inr (.inl ()))))
theorem Cp(hd:1≤d){a1 a2:List ah}{r:Int⊕(Unit⊕Bool)}(hQ:FQ (bG (vV a1 a2) (A_ a1 a2) r) Q){iM:Int}{kg:Bool}(hS:pF a1 a2 iM kg=some r): ∀st,au [0,1,12,13,14] [] [] st=Rq a1 a2 iM kg→ZX d Q anU [] st:=by
 intro st he
 refine av he ?_
 unfold pF at hS
 refine aC (sR 14 hS (fun hS=>?_) (fun hS=>?_))
 ·exact jR (M8 hd hQ hS)
 ·exact zF (av (J:=E4 a1 a2) (by kernel_rfl) (cX (cV (bg (jw hS hQ)))))
def xI(a1 a2:List ah)(x:Int):Option (Int⊕(Unit⊕Bool)):=(bif (decide (x<(a1.length:Int))) then (pF a1 a2 x true) else (pF a1 a2 x false))
theorem Y9(hd:1≤d){a1 a2:List ah}{r:Int⊕(Unit⊕Bool)}(hQ:FQ (bG (vV a1 a2) (A_ a1 a2) r) Q){x:Int}(hS:xI a1 a2 x=some r)(he:vV a1 a2 x st):ZX d Q anV [] st:=by
 refine av he ?_
 unfold xI at hS
 refine zS (sB 14 hS (fun hS=>?_) (fun hS=>?_))
 ·exact zK (Cp hd hQ hS _ (by kernel_rfl))
 ·exact jL (Cp hd hQ hS)
def aii(a1 a2:List ah):St:=⟨(up (up u0 1 (dE aj a2)) 0 (dE aj a1)),h0⟩
def IP(a1 a2:List ah):Option (Bool):=((b9 (xI a1 a2) 0).bind fun z9=>(Sum.elim (fun dh=>(some true)) (fun cM=>(some cM)) z9))
theorem Y_(hd:1≤d){a1 a2:List ah}{r:Bool}(hQ:FQ (aqX r) Q)(hS:IP a1 a2=some r): ∀st,au [0,1] [] [] st=aii a1 a2→ZX d Q anW [] st:=by
 intro st he
 refine av he ?_
 unfold IP at hS
 refine aC (zS (zL 3 (zK (bw (aq hS (fun z9 jF hS=>dF (vV a1 a2) (A_ a1 a2) (fun x st r Q h0 hS hQ=>Y9 hd hQ hS h0) (x:=0) (z:=z9) (by show au _ _ _ _=_;kernel_rfl) jF ?_))))))
 rcases z9 with dh | cM
 ·replace hS:=(show _=_ from hS)
  simp only [tD] at hS
  intro e bl _ hX
  obtain ⟨rfl,rfl⟩:_∧_:=hX
  exact nK hS hQ
 ·simp only [tE] at hS
  intro e bl _ hX
  obtain ⟨rfl,hX⟩:_∧_:=hX
  exact cj (bQ (bg (dW hS hQ (je (by kernel_rfl) ((congrArg (fun s=>cN s 0 Xd.res) hX).trans aqW)))))
def f37(a1 a2:List ah):Option (Bool):=(bif (!decide ((a1.length:Int)=(a2.length:Int))) then (some false) else (IP a1 a2))
theorem aer{d:Nat}(hd:1≤d){a1 a2:List ah}{r:Bool}(hS:f37 a1 a2=some r):bZ ay aX d 37 [(dE aj a1),(dE aj a2)] []=some ((dB r),[]):=by
 refine cI hd (fun Q hQ=>?_) aor
 unfold f37 at hS
 show ZR _ Q anX [] _
 replace hQ:FQ (aqX r) Q:=hQ
 refine zS (zL 1 (zK (aC (zS (zL 4 (sB 10 hS (fun hS=>?_) (fun hS=>?_)))))))
 ·exact nL hS hQ
 ·exact jL (Y_ hd hQ hS)
/- farwriter/farref.SameGrid -/
def aA0(r:Bool)(e:PX)(st:St):Prop:=aU c34 0 ((dB r),[]) e st
def f34(a1 a2:bS):Option (Bool):=(bif (decide (a1.bR=a2.bR)) then (bif (decide (a1.bW=a2.bW)) then ((f37 a1.Cells a2.Cells).bind fun z2=>(some z2)) else (some false)) else (some false))
theorem aet{d:Nat}(hd:2≤d){a1 a2:bS}{r:Bool}(hS:f34 a1 a2=some r):bZ ay aX d 34 [(.agg (sy a1)),(.agg (sy a2))] []=some ((dB r),[]):=by
 refine cI hd (fun Q hQ=>?_) aoo
 unfold f34 at hS
 show ZR _ Q anY [] _
 replace hQ:FQ (aA0 r) Q:=hQ
 refine zS (zL 3 (zK (zS (zL 4 (sB 9 hS (fun hS=>?_) (fun hS=>?_))))))
 ·refine zL 5 (sB 15 hS (fun hS=>?_) (fun hS=>?_))
  ·exact zL 6 (aq hS (fun z2 hz2 hS=>zG (some 22) 17 true (.call 37 [(tm 19),(tm 21)]) (b_ (aer (aV hd rfl) hz2)) (nL hS hQ)))
  ·exact nL hS hQ
 ·exact nL hS hQ
/- farwriter/farref.SameScreen$1 -/
def aA1(r:Bool)(e:PX)(st:St):Prop:=aU c36 0 ((dB r),[]) e st
def f36(a1 a2:bF):Option (Bool):=((f37 a1.Cells a2.Cells).bind fun z2=>(some z2))
theorem awS{d:Nat}(hd:2≤d){a1 a2:bF}{r:Bool}(hS:f36 a1 a2=some r):bZ ay aX d 36 [(.agg ((dE aj a1.Cells):: [])),(.agg ((dE aj a2.Cells):: []))] []=some ((dB r),[]):=by
 refine cI hd (fun Q hQ=>?_) aoq
 unfold f36 at hS
 show ZR _ Q anZ [] _
 replace hQ:FQ (aA1 r) Q:=hQ
 exact zS (zL 3 (zK (zS (zL 4 (aq hS (fun z2 hz2 hS=>zC 9 (aer (aV hd rfl) hz2) (nL hS hQ)))))))
/- slices.EqualFunc[[]farwriter/api.Line,[]farwriter/api.Line,farwriter/api.Line,farwriter/api.Line] -/
def Va(p9:Bool):St:=⟨(up u0 6 (dB p9)),h0⟩
theorem aqZ{p9:Bool}:cN (Va p9) 0 Xe.res=some ((dB p9),[]):=by
 kernel_rfl
def aq0(r:Bool)(e:PX)(st:St):Prop:=aU Xe 0 ((dB r),[]) e st
def aij(a1 a2:List bF)(x:Int):St:=⟨(up (up (up (up (up u0 17 (dI x)) 16 (dI (a1.length:Int))) 15 (dE bE a1)) 2 (.fn 36 [])) 1 (dE bE a2)),h0⟩
def vW(a1 a2:List bF)(x:Int)(st:St):Prop:=au [1,2,15,16,17] [] [] st=aij a1 a2 x
def E5(a1 a2:List bF):St:=⟨u0,h0⟩
def Ba(a1 a2:List bF)(z:Unit⊕Bool)(e:PX)(st:St):Prop:=(match z with | .inl z=>e= .exit 0∧st=E5 a1 a2 | .inr z=>e= .ret∧dV Xe.fin st=Va z)
def Rs(a1 a2:List bF)(jZ:Int):St:=⟨(up (up (up (up (up u0 17 (dI jZ)) 16 (dI (a1.length:Int))) 15 (dE bE a1)) 2 (.fn 36 [])) 1 (dE bE a2)),h0⟩
def xJ(a1 a2:List bF)(jZ:Int):Option (Int⊕(Unit⊕Bool)):=((idx a1 jZ).bind fun dh=>((idx a2 jZ).bind fun cM=>((f36 dh cM).bind fun z12=>(bif (!z12) then (some (.inr (.inr false))) else (some (.inl (IntKind.i64.wrap (jZ+1))))))))
theorem M9(hd:3≤d){a1 a2:List bF}{r:Int⊕(Unit⊕Bool)}(hQ:FQ (bG (vW a1 a2) (Ba a1 a2) r) Q){jZ:Int}(hS:xJ a1 a2 jZ=some r): ∀st,au [1,2,15,16,17] [] [] st=Rs a1 a2 jZ→ZX d Q an0 [] st:=by
 intro st he
 refine av he ?_
 unfold xJ at hS
 refine aC (bw (zS (zL 1 (aq hS (fun dh iT hS=>zO (v:=(.cD (bE.enc dh++(bE.cells (a1.drop ((jZ:Int).toNat+1)))))) (aD:= []) (some 20) (.jc 111 1 (tm 15) (tm 17)) (eY bE (kk:= .i64) (xs:=a1) (j:=jZ) (by kernel_rfl) (by kernel_rfl) iT rfl (by intro h;cases h)) (zL 4 (zK (zS (zL 2 (aq hS (fun cM jN hS=>zO (v:=(.cD (bE.enc cM++(bE.cells (a2.drop ((jZ:Int).toNat+1)))))) (aD:= []) (some 24) (.jc 111 1 (tm 22) (tm 23)) (eY bE (kk:= .i64) (xs:=a2) (j:=jZ) (by kernel_rfl) (by kernel_rfl) jN rfl (by intro h;cases h)) (zL 3 (zK (zS (zL 3 (aq hS (fun z12 gG hS=>zO (v:=(dB z12)) (aD:= []) (some 29) (.lM (tm 26) [(tm 27),(tm 28)]) (ox (f:=36) (cs:= []) (by kernel_rfl) (args:= [(.agg ((dE aj dh.Cells):: [])),(.agg ((dE aj cM.Cells):: []))]) (l:= [(.agg ((dE aj dh.Cells):: [])),(.agg ((dE aj cM.Cells):: []))]) (r:=(dB z12)) (by kernel_rfl) (by kernel_rfl) (awS (aV hd rfl) gG) (by kernel_rfl) (by kernel_rfl) (by kernel_rfl)) (zL 1 (zK (sR 30 hS (fun hS=>?_) (fun hS=>?_)))))))))))))))))))))
 ·exact zT (zS (zL 1 (zK (cL (cj (bQ (bg (mG hS hQ))))))))
 ·exact lR hS hQ
def Ru(a1 a2:List bF)(fH:Int)(ig:Bool):St:=⟨(up (up (up (up (up (up u0 18 (dB ig)) 17 (dI fH)) 16 (dI (a1.length:Int))) 15 (dE bE a1)) 2 (.fn 36 [])) 1 (dE bE a2)),h0⟩
def pG(a1 a2:List bF)(fH:Int)(ig:Bool):Option (Int⊕(Unit⊕Bool)):=(bif ig then (xJ a1 a2 fH) else (some (.inr (.inl ()))))
theorem Cq(hd:3≤d){a1 a2:List bF}{r:Int⊕(Unit⊕Bool)}(hQ:FQ (bG (vW a1 a2) (Ba a1 a2) r) Q){fH:Int}{ig:Bool}(hS:pG a1 a2 fH ig=some r): ∀st,au [1,2,15,16,17,18] [] [] st=Ru a1 a2 fH ig→ZX d Q an1 [] st:=by
 intro st he
 refine av he ?_
 unfold pG at hS
 refine aC (sR 18 hS (fun hS=>?_) (fun hS=>?_))
 ·exact jR (M9 hd hQ hS)
 ·exact zF (av (J:=E5 a1 a2) (by kernel_rfl) (cX (cV (bg (jw hS hQ)))))
def xK(a1 a2:List bF)(x:Int):Option (Int⊕(Unit⊕Bool)):=(bif (decide (x<(a1.length:Int))) then (pG a1 a2 x true) else (pG a1 a2 x false))
theorem Za(hd:3≤d){a1 a2:List bF}{r:Int⊕(Unit⊕Bool)}(hQ:FQ (bG (vW a1 a2) (Ba a1 a2) r) Q){x:Int}(hS:xK a1 a2 x=some r)(he:vW a1 a2 x st):ZX d Q an2 [] st:=by
 refine av he ?_
 unfold xK at hS
 refine zS (sB 18 hS (fun hS=>?_) (fun hS=>?_))
 ·exact zK (Cq hd hQ hS _ (by kernel_rfl))
 ·exact jL (Cq hd hQ hS)
def aik(a1 a2:List bF):St:=⟨(up (up (up u0 2 (.fn 36 [])) 1 (dE bE a2)) 0 (dE bE a1)),h0⟩
def IQ(a1 a2:List bF):Option (Bool):=((b9 (xK a1 a2) 0).bind fun dX=>(Sum.elim (fun dR=>(some true)) (fun eZ=>(some eZ)) dX))
theorem Zb(hd:3≤d){a1 a2:List bF}{r:Bool}(hQ:FQ (aq0 r) Q)(hS:IQ a1 a2=some r): ∀st,au [0,1,2] [] [] st=aik a1 a2→ZX d Q an3 [] st:=by
 intro st he
 refine av he ?_
 unfold IQ at hS
 refine aC (zS (zL 3 (zK (bw (aq hS (fun dX iU hS=>dF (vW a1 a2) (Ba a1 a2) (fun x st r Q h0 hS hQ=>Za hd hQ hS h0) (x:=0) (z:=dX) (by show au _ _ _ _=_;kernel_rfl) iU ?_))))))
 rcases dX with dR | eZ
 ·replace hS:=(show _=_ from hS)
  simp only [tD] at hS
  intro e bl _ hX
  obtain ⟨rfl,rfl⟩:_∧_:=hX
  exact nK hS hQ
 ·simp only [tE] at hS
  intro e bl _ hX
  obtain ⟨rfl,hX⟩:_∧_:=hX
  exact cj (bQ (bg (dW hS hQ (je (by kernel_rfl) ((congrArg (fun s=>cN s 0 Xe.res) hX).trans aqZ)))))
def f35(a1 a2:List bF):Option (Bool):=(bif (!decide ((a1.length:Int)=(a2.length:Int))) then (some false) else (IQ a1 a2))
theorem awT{d:Nat}(hd:3≤d){a1 a2:List bF}{r:Bool}(hS:f35 a1 a2=some r):bZ ay aX d 35 [(dE bE a1),(dE bE a2),(.fn 36 [])] []=some ((dB r),[]):=by
 refine cI hd (fun Q hQ=>?_) aop
 unfold f35 at hS
 show ZR _ Q an4 [] _
 replace hQ:FQ (aq0 r) Q:=hQ
 refine zS (zL 1 (zK (aC (zS (zL 4 (sB 14 hS (fun hS=>?_) (fun hS=>?_)))))))
 ·exact nL hS hQ
 ·exact jL (Zb hd hQ hS)
/- farwriter/farref.SameScreen -/
def aA3(r:Bool)(e:PX)(st:St):Prop:=aU c13 0 ((dB r),[]) e st
def f13(a1 a2:aA):Option (Bool):=((f34 a1.aG a2.aG).bind fun z4=>(bif z4 then ((f34 a1.aT a2.aT).bind fun z5=>(bif z5 then (bif (decide (a1.Row=a2.Row)) then (bif (decide (a1.cP=a2.cP)) then (bif (decide (a1.eK=a2.eK)) then (bif (decide (a1.ji=a2.ji)) then (bif (decide (a1.cT=a2.cT)) then (bif (decide (a1.bP.Flags=a2.bP.Flags)&&(decide (a1.bP.dP=a2.bP.dP)&&(decide (a1.bP.dm=a2.bP.dm)&&true))) then (bif (decide (a1.eE=a2.eE)) then (bif (CL 4 a1.eU.Bits a2.eU.Bits&&true) then (bif (decide (a1.bp.1=a2.bp.1)&&(decide (a1.bp.2=a2.bp.2)&&true)) then (bif (decide (a1.cC=a2.cC)) then (bif (decide (a1.aI.Row=a2.aI.Row)&&(decide (a1.aI.cP=a2.aI.cP)&&(decide (a1.aI.bP.Flags=a2.aI.bP.Flags)&&(decide (a1.aI.bP.dP=a2.aI.bP.dP)&&(decide (a1.aI.bP.dm=a2.aI.bP.dm)&&(decide (a1.aI.Origin=a2.aI.Origin)&&(decide (a1.aI.bp.1=a2.aI.bp.1)&&(decide (a1.aI.bp.2=a2.aI.bp.2)&&(decide (a1.aI.cC=a2.aI.cC)&&true))))))))) then (bif (decide (a1.gz=a2.gz)) then ((f35 a1.bn a2.bn).bind fun z6=>(some z6)) else (some false)) else (some false)) else (some false)) else (some false)) else (some false)) else (some false)) else (some false)) else (some false)) else (some false)) else (some false)) else (some false)) else (some false)) else (some false))) else (some false)))
theorem awU{d:Nat}(hd:4≤d){a1 a2:aA}{r:Bool}(hS:f13 a1 a2=some r):bZ ay aX d 13 [(.agg (bK a1)),(.agg (bK a2))] []=some ((dB r),[]):=by
 refine cI hd (fun Q hQ=>?_) an9
 unfold f13 at hS
 show ZR _ Q an5 [] _
 replace hQ:FQ (aA3 r) Q:=hQ
 refine zS (zL 3 (zK (zS (zL 4 (aq hS (fun z4 iZ hS=>zC 9 (aet (aV hd rfl) iZ) (zL 1 (sL 10 hS (fun hS=>?_) (fun hS=>?_)))))))))
 ·refine zL 4 (aq hS (fun z5 jQ hS=>zG (some 15) 10 true (.call 34 [(tm 12),(tm 14)]) (b_ (aet (aV hd rfl) jQ)) (zL 2 (sL 17 hS (fun hS=>?_) (fun hS=>?_)))))
  ·refine zL 4 (sB 22 hS (fun hS=>?_) (fun hS=>?_))
   ·refine zL 6 (sB 29 hS (fun hS=>?_) (fun hS=>?_))
    ·refine zL 6 (sB 36 hS (fun hS=>?_) (fun hS=>?_))
     ·refine zL 6 (sB 43 hS (fun hS=>?_) (fun hS=>?_))
      ·refine zL 6 (sB 50 hS (fun hS=>?_) (fun hS=>?_))
       ·refine zL 6 (sB 57 hS (fun hS=>?_) (fun hS=>?_))
        ·refine zL 6 (sB 64 hS (fun hS=>?_) (fun hS=>?_))
         ·refine zL 6 (Z9 (d:=71) (op:=(.L9 .false [(4,.int)] (tm 68) (tm 70))) (g:=(some (66,true))) (j:=67) (CL 4 a1.eU.Bits a2.eU.Bits&&true) rfl (by kernel_rfl) (by kernel_rfl) (atp (va:=(((cu .u64).row 4 a1.eU.Bits)++ [])) (vb:=(((cu .u64).row 4 a2.eU.Bits)++ [])) (ks:=(List.replicate 4 .int++ [])) (by kernel_rfl) (by kernel_rfl) (by kernel_rfl) (aj3 eq_nil)) (fun hc=>?_) (fun hc=>?_))
          ·replace hS:=Aq hc hS
           refine zL 6 (sB 78 hS (fun hS=>?_) (fun hS=>?_))
           ·refine zL 6 (sB 85 hS (fun hS=>?_) (fun hS=>?_))
            ·refine zL 6 (sB 92 hS (fun hS=>?_) (fun hS=>?_))
             ·refine zL 6 (sB 99 hS (fun hS=>?_) (fun hS=>?_))
              ·exact zL 6 (aq hS (fun z6 l9 hS=>zG (some 106) 101 true (.call 35 [(tm 103),(tm 105),(.func 36)]) (b_ (awT (aV hd rfl) l9)) (nL hS hQ)))
              ·exact nL hS hQ
             ·exact nL hS hQ
            ·exact nL hS hQ
           ·exact nL hS hQ
          ·replace hS:=Ar hc hS
           exact nL hS hQ
         ·exact nL hS hQ
        ·exact nL hS hQ
       ·exact nL hS hQ
      ·exact nL hS hQ
     ·exact nL hS hQ
    ·exact nL hS hQ
   ·exact nL hS hQ
  ·exact nL hS hQ
 ·exact nL hS hQ
/- farwriter/farkeep.ClientEcho -/
def aq1(r:Bool)(e:PX)(st:St):Prop:=aU c4 0 ((dB r),[]) e st
def aq2(a1:bh)(a2:eD)(F3:bh)(ld nv:S8)(gU:Int):St:=⟨(up (up (up (up (up u0 11 (dI gU)) 10 (.d (.str nv))) 7 (.d (.str ld))) 6 (pt 56)) 2 (pt 24)),(up (up h0 56 (aki F3)) 24 ⟨0,some (.box (tO ({a1 with Neg:={a1.Neg with fX:=(upd (upd a1.Neg.fX 1 1) 1 0)},kL:=false}) (iD a1.af) (jP a1.af) (fY a1.af) (dE dN a1.bN.Names) (dE cY a1.Vars)))⟩)⟩
def Rv(a1:bh)(a2:eD)(F3:bh)(ld nv:S8)(gU:Int):Option (Bool):=(bif (decide (gU=0)) then (bif (decide (ld=nv)) then (bif (!decide (ld=([]:S8))) then ((f13 F3.af a1.af).bind fun dh=>(some dh)) else (some false)) else (some false)) else (some false))
theorem ail(hd:17≤d){a1:bh}{a2:eD}{r:Bool}(hQ:FQ (aq1 r) Q){F3:bh}{ld nv:S8}{gU:Int}(hS:Rv a1 a2 F3 ld nv gU=some r): ∀st,au [2,6,7,10,11] [(24,.id 24),(56,.id 56)] [] st=aq2 a1 a2 F3 ld nv gU→ZX d Q an6 [] st:=by
 intro st he
 refine av he ?_
 unfold Rv at hS
 refine zS (zL 1 (sB 48 hS (fun hS=>?_) (fun hS=>?_)))
 ·refine zL 3 (sB 52 hS (fun hS=>?_) (fun hS=>?_))
  ·refine zL 3 (sB 56 hS (fun hS=>?_) (fun hS=>?_))
   ·exact zL 6 (aq hS (fun dh iT hS=>zG (some 63) 58 true (.call 13 [(tm 60),(tm 62)]) (b_ (awU (aV hd rfl) iT)) (nL hS hQ)))
   ·exact nL hS hQ
  ·exact nL hS hQ
 ·exact nL hS hQ
def aq3(a1:bh)(a2:eD)(lS en:Int):St:=⟨(up (up u0 11 (dI en)) 8 (dI lS)),h0⟩
def Lu(a1:bh)(a2:eD)(lS en:Int):Option (Bool):=(oG.bind fun z12=>(bif z12 then (bif (decide (lS=en)) then (some true) else (some false)) else (some false)))
theorem O1(hd:17≤d){a1:bh}{a2:eD}{r:Bool}(hQ:FQ (aq1 r) Q){lS en:Int}(hS:Lu a1 a2 lS en=some r): ∀st,au [8,11] [] [] st=aq3 a1 a2 lS en→ZX d Q ayu [.seq an6] st:=by
 intro st he
 refine av he ?_
 unfold Lu at hS
 refine zS (aq hS (fun z12 gG hS=>zC 41 (E3 (aV hd rfl) gG) (zL 1 (sL 42 hS (fun hS=>?_) (fun hS=>?_)))))
 ·refine zL 2 (sB 45 hS (fun hS=>?_) (fun hS=>?_))
  ·exact nL hS hQ
  ·exact nL hS hQ
 ·exact nL hS hQ
def f4(a1:bh)(a2:eD):Option (Bool):=((f5 ({a1 with Neg:={a1.Neg with fX:=(upd a1.Neg.fX 1 1)},kL:=false}) (iC.mk 2 ([]) a2 (eN.mk 0 0 0 0 false) ([]) 0 0 false 0 false)).bind fun z6=>((f5 ({a1 with Neg:={a1.Neg with fX:=(upd (upd a1.Neg.fX 1 1) 1 0)},kL:=false}) (iC.mk 2 ([]) a2 (eN.mk 0 0 0 0 false) ([]) 0 0 false 0 false)).bind fun z7=>(oG.bind fun dX=>(bif (!dX) then (Lu a1 a2 z6.2.2 z7.2.2) else (bif (!decide (z6.2.2=0)) then (Lu a1 a2 z6.2.2 z7.2.2) else (Rv a1 a2 z6.1 z6.2.1 z7.2.1 z7.2.2))))))
theorem aA4{d:Nat}(hd:17≤d){a1:bh}{a2:eD}{r:Bool}(hS:f4 a1 a2=some r):bZ ay aX d 4 [(lQ a1),(.agg ((dI a2.Name)::((dI a2.eB)::((dI a2.eV):: []))))] []=some ((dB r),[]):=by
 refine cI hd (fun Q hQ=>?_) avB
 unfold f4 at hS
 show ZR _ Q ayv [] _
 replace hQ:FQ (aq1 r) Q:=hQ
 refine zS (zL 3 (zK (zS (zL 2 (zK (zS (zL 4 (zK (zS (zL 4 (zK (zS (zL 2 (aq hS (fun z6 l9 hS=>zO (v:=(.bH [(lQ z6.1),(.d (.str z6.2.1)),(dI z6.2.2)])) (aD:= []) (some 21) (.jn 5 [(tm 19),(tm 20)]) (ja (args:= [(q9_ a1),(aai a2)]) (args':= [(q9_ a1),(aai a2)]) (l:= [(q9_ a1),(lD a2)]) (refs:= []) (r:=(.bH [(lQ z6.1),(.d (.str z6.2.1)),(dI z6.2.2)])) (v:=(.bH [(lQ z6.1),(.d (.str z6.2.1)),(dI z6.2.2)])) (od:= []) (by kernel_rfl) (by kernel_rfl) (by kernel_rfl) (gR rfl (gR rfl mj)) (by kernel_rfl) (aqV (aV hd rfl) l9) (by kernel_rfl) (by kernel_rfl) (by kernel_rfl) (by kernel_rfl)) (zL 8 (zK (zS (zL 4 (zK (zS (zL 2 (aq hS (fun z7 kO hS=>zO (v:=(.bH [(lQ z7.1),(.d (.str z7.2.1)),(dI z7.2.2)])) (aD:= []) (some 31) (.jn 5 [(tm 29),(tm 30)]) (ja (args:= [(q8_ a1),(aai a2)]) (args':= [(q8_ a1),(aai a2)]) (l:= [(q8_ a1),(lD a2)]) (refs:= []) (r:=(.bH [(lQ z7.1),(.d (.str z7.2.1)),(dI z7.2.2)])) (v:=(.bH [(lQ z7.1),(.d (.str z7.2.1)),(dI z7.2.2)])) (od:= []) (by kernel_rfl) (by kernel_rfl) (by kernel_rfl) (gR rfl (gR rfl mj)) (by kernel_rfl) (aqV (aV hd rfl) kO) (by kernel_rfl) (by kernel_rfl) (by kernel_rfl) (by kernel_rfl)) (zL 8 (zK (aC (zS (aq hS (fun dX iU hS=>zC 35 (E3 (aV hd rfl) iU) (zL 2 (sL 37 hS (fun hS=>?_) (fun hS=>?_)))))))))))))))))))))))))))))))))
 ·exact zL 3 (zK (zT (O1 hd hQ hS _ (by kernel_rfl))))
 ·refine zL 1 (sB 39 hS (fun hS=>?_) (fun hS=>?_))
  ·exact zL 1 (zK (zT (O1 hd hQ hS _ (by kernel_rfl))))
  ·exact jL (ail hd hQ hS)
end
end Go.Proofs.YtimbfadnabfabaaGreatDoor.Pm
