/- Typed functions, and that the codes are these. Printed by dec.py. -/
import Derived.Test.YtimbfadnabfabaaGreatDoorDMoD
namespace Go.Proofs.YtimbfadnabfabaaGreatDoor.Pm
noncomputable section
set_option maxRecDepth 1000000
set_option maxHeartbeats 20000000
set_option linter.unusedVariables false
set_option linter.unusedSimpArgs false
variable {d : Nat} {Q : PQ} {st : St}
/- farwriter/utf.longest -/
def amj(r:Int×Bool)(e:PX)(st:St):Prop:=aV c53 0 ((.bE [(dI r.1),(dB r.2)]),[]) e st
def afj(a1:S8)(x:Int×UInt8×UInt8×Int):St:=⟨(up (up (up (up (up u0 7 (dI x.2.2.2)) 6 (.d (.int .u8 (x.2.2.1.toNat:Int)))) 5 (.d (.int .u8 (x.2.1.toNat:Int)))) 4 (dI x.1)) 0 (.d (.str a1))),h0⟩
def E5(a1:S8)(x:Int×UInt8×UInt8×Int)(st:St):Prop:=au [0,4,5,6,7] [] [] st=afj a1 x
def nh(a1:S8)(aBZ aB0:Int):St:=⟨(up (up u0 7 (dI aB0)) 4 (dI aBZ)),h0⟩
def Nh(a1:S8)(z:(Int×Int))(e:PX)(st:St):Prop:=e= .exit 0∧st=nh a1 z.1 z.2
def vo(a1:S8)(x:Int×UInt8×UInt8×Int):Option ((Int×UInt8×UInt8×Int)⊕((Int×Int))):=(bif (decide (x.2.2.2≤x.1)) then (bif (decide (x.2.2.2<(a1.length:Int))) then ((idx a1 x.2.2.2).bind fun z21=>(bif (decide ((x.2.1.toNat:Int)≤(z21.toNat:Int))) then ((idx a1 x.2.2.2).bind fun z22=>(bif (decide ((z22.toNat:Int)≤(x.2.2.1.toNat:Int))) then (some (.inl (x.1,(128:UInt8),(191:UInt8),(IntKind.i64.wrap (x.2.2.2+1))))) else (some (.inr (x.1,x.2.2.2))))) else (some (.inr (x.1,x.2.2.2))))) else (some (.inr (x.1,x.2.2.2)))) else (some (.inr (x.1,x.2.2.2))))
theorem WJ(hd:2≤d){a1:S8}{r:(Int×UInt8×UInt8×Int)⊕((Int×Int))}(hQ:FQ (bG (E5 a1) (Nh a1) r) Q){x:Int×UInt8×UInt8×Int}(hS:vo a1 x=some r)(he:E5 a1 x st):ZX d Q ai3 [] st:=by
 refine ay he (aC (zS (zL 2 (sB 19 hS (fun hS=>?_) (fun hS=>?_)))))
 ·refine zL 4 (sB 24 hS (fun hS=>?_) (fun hS=>?_))
  ·refine zL 4 (aq hS (fun z21 nc hS=>zG (v:=(.d (.int .u8 (z21.toNat:Int)))) (aD:= []) (some 29) 26 true (.iw (tm 27) (tm 28)) (fq (kk:= .i64) (s:=a1) (j:=x.2.2.2) (by kernel_rfl) (by kernel_rfl) nc) (zL 1 (sB 31 hS (fun hS=>?_) (fun hS=>?_)))))
   ·refine zL 4 (aq hS (fun z22 AK hS=>zG (v:=(.d (.int .u8 (z22.toNat:Int)))) (aD:= []) (some 36) 33 true (.iw (tm 34) (tm 35)) (fq (kk:= .i64) (s:=a1) (j:=x.2.2.2) (by kernel_rfl) (by kernel_rfl) AK) (zL 1 (sB 38 hS (fun hS=>?_) (fun hS=>?_)))))
    ·exact lL hS hQ
    ·exact zL 1 (zK (zF (ay (J:=nh a1 x.1 x.2.2.2) (by kernel_rfl) (dh (cY (bk (jA hS hQ)))))))
   ·exact zL 8 (zK (zF (ay (J:=nh a1 x.1 x.2.2.2) (by kernel_rfl) (dh (cY (bk (jA hS hQ)))))))
  ·exact zL 15 (zK (zF (ay (J:=nh a1 x.1 x.2.2.2) (by kernel_rfl) (dh (cY (bk (jA hS hQ)))))))
 ·exact zL 20 (zK (zF (ay (J:=nh a1 x.1 x.2.2.2) (by kernel_rfl) (dh (cY (bk (jA hS hQ)))))))
def afk(a1:S8)(BV:Int)(WK WL:UInt8):St:=⟨(up (up (up (up u0 6 (.d (.int .u8 (WL.toNat:Int)))) 5 (.d (.int .u8 (WK.toNat:Int)))) 4 (dI BV)) 0 (.d (.str a1))),h0⟩
def PJ(a1:S8)(BV:Int)(WK WL:UInt8):Option (Int×Bool):=((b9 (vo a1) (BV,WK,WL,1)).bind fun z23=>(bif (decide (z23.1<z23.2)) then (some (z23.2,true)) else (some (z23.2,false))))
theorem WM(hd:2≤d){a1:S8}{r:Int×Bool}(hQ:FQ (amj r) Q){BV:Int}{WK WL:UInt8}(hS:PJ a1 BV WK WL=some r): ∀st,au [0,4,5,6] [] [] st=afk a1 BV WK WL→ZX d Q ai4 [] st:=by
 intro st he
 refine ay he (zS (zL 1 (zK (aC (bz (aq hS (fun z23 xC hS=>dN (E5 a1) (Nh a1) (fun x st r Q h0 hS hQ=>WJ hd hQ hS h0) (x:=(BV,WK,WL,1)) (z:=z23) (by show au _ _ _ _=_;kernel_rfl) xC ?_)))))))
 intro e bl _ hX
 obtain ⟨rfl,rfl⟩:_∧_:=hX
 refine j9 (cj (zS (zL 3 (sB 45 hS (fun hS=>?_) (fun hS=>?_)))))
 ·exact nL hS hQ
 ·exact nL hS hQ
def f53(a1:S8):Option (Int×Bool):=((idx a1 0).bind fun cS=>((f85 cS).bind fun z12=>(bif (decide (z12.1=0)) then (some (0,false)) else (PJ a1 z12.1 z12.2.1 z12.2.2))))
theorem ab4{d:Nat}(hd:2≤d){a1:S8}{r:Int×Bool}(hS:f53 a1=some r):bW av aX d 53 [(.d (.str a1))] []=some ((.bE [(dI r.1),(dB r.2)]),[]):=by
 refine cL amj hd (fun Q hQ=>?_) alQ
 refine zS (zL 2 (zK (zS (zL 1 (aq hS (fun cS kf hS=>zO (v:=(.d (.int .u8 (cS.toNat:Int)))) (aD:= []) (some 10) (.iw (tm 9) (ki 0)) (fq (kk:= .i64) (s:=a1) (j:=0) (by kernel_rfl) (by kernel_rfl) kf) (aq hS (fun z12 gO hS=>zC 11 (atQ (aU hd rfl) gO) (zL 7 (zK (aC (zS (zL 1 (sB 16 hS (fun hS=>?_) (fun hS=>?_)))))))))))))))
 ·exact nL hS hQ
 ·exact jL (WM hd hQ hS)
/- farwriter/utf.Check -/
def amk(r:Int)(e:PX)(st:St):Prop:=aV c20 0 ((dI r),[]) e st
def afl(a1:S8):St:=⟨(up u0 0 (.d (.str a1))),h0⟩
def Ho(a1:S8):Option (Int):=((f53 a1).bind fun z2=>(bif z2.2 then (some 4) else (bif (!decide (z2.1=(a1.length:Int))) then (some 4) else (some 0))))
theorem WN(hd:3≤d){a1:S8}{r:Int}(hQ:FQ (amk r) Q)(hS:Ho a1=some r): ∀st,au [0] [] [] st=afl a1→ZX d Q ai5 [] st:=by
 intro st he
 refine ay he (aC (zS (zL 1 (aq hS (fun z2 hz2 hS=>zC 9 (ab4 (aU hd rfl) hz2) (zL 5 (zK (zS (zL 2 (sL 13 hS (fun hS=>?_) (fun hS=>?_)))))))))))
 ·exact nL hS hQ
 ·refine zL 3 (sB 17 hS (fun hS=>?_) (fun hS=>?_))
  ·exact nL hS hQ
  ·exact nL hS hQ
def f20(a1:S8):Option (Int):=(bif (decide (a1=([]:S8))) then (some 0) else (Ho a1))
theorem ab5{d:Nat}(hd:3≤d){a1:S8}{r:Int}(hS:f20 a1=some r):bW av aX d 20 [(.d (.str a1))] []=some ((dI r),[]):=by
 refine cL amk hd (fun Q hQ=>?_) alw
 refine zS (zL 1 (zK (aC (zS (zL 1 (sB 6 hS (fun hS=>?_) (fun hS=>?_)))))))
 ·exact nL hS hQ
 ·exact jL (WN hd hQ hS)
/- strings.Trim -/
theorem SX{d:Nat}(hd:0≤d){a1 a2 r:S8}(hS:rj a1 a2=some r):bW av aX d 86 [(.d (.str a1)),(.d (.str a2))] []=some ((.d (.str r)),[]):=oa (l:=libs) rfl rfl rfl (ax0 hS) d
/- strings.Split -/
theorem PK{d:Nat}(hd:0≤d){a1 a2:S8}{r:List S8}(hS:mz a1 a2=some r):bW av aX d 87 [(.d (.str a1)),(.d (.str a2))] []=some ((dE dM r),[]):=oa (l:=libs) rfl rfl rfl (ax2 hS) d
/- farwriter/args.Read -/
def SY(FT:List Int)(SZ:Int):St:=⟨(up (up u0 3 (dI SZ)) 2 (.r (.aJ 569 0 0 FT.length))),(up h0 569 ⟨0,some (.own 3 1 (eI.cells FT))⟩)⟩
theorem Jp{FT:List Int}{SZ:Int}:cP (SY FT SZ) 0 Wh.res=some ((.bE [(.r (.own 0 3 1 FT.length (eI.cells FT))),(dI SZ)]),[]):=by
 exact iN (ids:= []) (ids':= [569]) (l:= [(.r (.aJ 569 0 0 FT.length)),(dI SZ)]) (by kernel_rfl) (by kernel_rfl) (BL (aN (gX eI (e:=3) (k:=1) (xs:=FT) (by kernel_rfl) rfl rfl rfl rfl) (aN rfl mW)))
def WO(r:(List Int)×Int)(e:PX)(st:St):Prop:=aV Wh 0 ((.bE [(.r (.own 0 3 1 r.1.length (eI.cells r.1))),(dI r.2)]),[]) e st
def afm(a1:S8)(x:(List Int)×(List S8)×Int×Int):St:=⟨(up (up (up (up u0 38 (dI x.2.2.2)) 37 (dI x.2.2.1)) 36 (dE dM x.2.1)) 5 (.r (.aJ 48 0 0 x.1.length))),(up h0 48 ⟨0,some (.own 3 1 (eI.cells x.1))⟩)⟩
def qF(a1:S8)(x:(List Int)×(List S8)×Int×Int)(st:St):Prop:=au [5,36,37,38] [(48,.id 48)] [] st=afm a1 x
def vp(a1:S8)(awA:List Int):St:=⟨(up u0 5 (.r (.aJ 48 0 0 awA.length))),(up h0 48 ⟨0,some (.own 3 1 (eI.cells awA))⟩)⟩
def um(a1:S8)(z:((List Int)))(e:PX)(st:St):Prop:=e= .exit 2∧st=vp a1 z
def PL(a1:S8)(x:(List Int)×S8×Int×(List S8)×Int×Int×Int×Int):St:=⟨(up (up (up (up (up (up (up (up u0 47 (dI x.2.2.2.2.2.2.2)) 46 (dI x.2.2.2.2.2.2.1)) 38 (dI x.2.2.2.2.2.1)) 37 (dI x.2.2.2.2.1)) 36 (dE dM x.2.2.2.1)) 8 (dI x.2.2.1)) 7 (.d (.str x.2.1))) 5 (.r (.aJ 48 0 0 x.1.length))),(up h0 48 ⟨0,some (.own 3 1 (eI.cells x.1))⟩)⟩
def ni(a1:S8)(x:(List Int)×S8×Int×(List S8)×Int×Int×Int×Int)(st:St):Prop:=au [5,7,8,36,37,38,46,47] [(48,.id 48)] [] st=PL a1 x
def wG(a1:S8)(awB:List Int)(aB1:Int)(aB2:List S8)(aB3 aB4:Int):St:=⟨(up (up (up (up (up u0 38 (dI aB4)) 37 (dI aB3)) 36 (dE dM aB2)) 8 (dI aB1)) 5 (.r (.aJ 48 0 0 awB.length))),(up h0 48 ⟨0,some (.own 3 1 (eI.cells awB))⟩)⟩
def qg(a1:S8)(z:((List Int)×Int×(List S8)×Int×Int))(e:PX)(st:St):Prop:=e= .exit 4∧st=wG a1 z.1 z.2.1 z.2.2.1 z.2.2.2.1 z.2.2.2.2
def GR(a1:S8)(Jq:List Int)(FU:S8)(Dd:Int)(Ni:List S8)(Nj Nk:Int)(Nl FV:Int):St:=⟨(up (up (up (up (up (up (up (up u0 47 (dI FV)) 46 (dI Nl)) 38 (dI Nk)) 37 (dI Nj)) 36 (dE dM Ni)) 8 (dI Dd)) 7 (.d (.str FU))) 5 (.r (.aJ 48 0 0 Jq.length))),(up h0 48 ⟨0,some (.own 3 1 (eI.cells Jq))⟩)⟩
def tJ(a1:S8)(Jq:List Int)(FU:S8)(Dd:Int)(Ni:List S8)(Nj Nk:Int)(Nl FV:Int):Option (((List Int)×S8×Int×(List S8)×Int×Int×Int×Int)⊕(((List Int)×Int×(List S8)×Int×Int))):=((idx FU FV).bind fun xD=>(some (.inl (Jq,FU,(if 16383<(IntKind.i64.wrap ((IntKind.i64.wrap ((if 0>Dd then 0 else Dd)*10))+((xD-(48:UInt8)).toNat:Int))) then 16383 else (IntKind.i64.wrap ((IntKind.i64.wrap ((if 0>Dd then 0 else Dd)*10))+((xD-(48:UInt8)).toNat:Int)))),Ni,Nj,Nk,Nl,(IntKind.i64.wrap (FV+1))))))
theorem E6(hd:1≤d){a1:S8}{r:((List Int)×S8×Int×(List S8)×Int×Int×Int×Int)⊕(((List Int)×Int×(List S8)×Int×Int))}(hQ:FQ (bG (ni a1) (qg a1) r) Q){Jq:List Int}{FU:S8}{Dd:Int}{Ni:List S8}{Nj Nk:Int}{Nl FV:Int}(hS:tJ a1 Jq FU Dd Ni Nj Nk Nl FV=some r): ∀st,au [5,7,8,36,37,38,46,47] [(48,.id 48)] [] st=GR a1 Jq FU Dd Ni Nj Nk Nl FV→ZX d Q ai6 [] st:=by
 intro st he
 exact ay he (aC (bz (zS (zL 2 (zK (a_ (zL 5 (aq hS (fun xD FW hS=>zO (v:=(.d (.int .u8 (xD.toNat:Int)))) (aD:= []) (some 55) (.iw (tm 53) (tm 54)) (fq (kk:= .i64) (s:=FU) (j:=FV) (by kernel_rfl) (by kernel_rfl) FW) (zO (v:=(.d (.int .u8 ((xD-(48:UInt8)).toNat:Int)))) (aD:= []) (some 56) (.qK .sub (tm 55) (.const (.int .u8 48))) (iW (kk:= .u8) (a:=(xD.toNat:Int)) (c:=((48:UInt8).toNat:Int)) (by kernel_rfl) (by kernel_rfl) (Sj xD (48:UInt8))) (zO (v:=(dI ((xD-(48:UInt8)).toNat:Int))) (aD:= []) (some 57) (.ku .i64 (tm 56)) (gC (kk:= .u8) (a:=((xD-(48:UInt8)).toNat:Int)) (by kernel_rfl) (qf _)) (lL hS hQ))))))))))))
def GS(a1:S8)(De:List Int)(Nn:S8)(FX:Int)(FY:List S8)(FZ F3:Int)(Np Nq:Int)(Nr:Bool):St:=⟨(up (up (up (up (up (up (up (up (up u0 48 (dB Nr)) 47 (dI Nq)) 46 (dI Np)) 38 (dI F3)) 37 (dI FZ)) 36 (dE dM FY)) 8 (dI FX)) 7 (.d (.str Nn))) 5 (.r (.aJ 48 0 0 De.length))),(up h0 48 ⟨0,some (.own 3 1 (eI.cells De))⟩)⟩
def lM(a1:S8)(De:List Int)(Nn:S8)(FX:Int)(FY:List S8)(FZ F3:Int)(Np Nq:Int)(Nr:Bool):Option (((List Int)×S8×Int×(List S8)×Int×Int×Int×Int)⊕(((List Int)×Int×(List S8)×Int×Int))):=(bif Nr then (tJ a1 De Nn FX FY FZ F3 Np Nq) else (some (.inr (De,FX,FY,FZ,F3))))
theorem uo(hd:1≤d){a1:S8}{r:((List Int)×S8×Int×(List S8)×Int×Int×Int×Int)⊕(((List Int)×Int×(List S8)×Int×Int))}(hQ:FQ (bG (ni a1) (qg a1) r) Q){De:List Int}{Nn:S8}{FX:Int}{FY:List S8}{FZ F3:Int}{Np Nq:Int}{Nr:Bool}(hS:lM a1 De Nn FX FY FZ F3 Np Nq Nr=some r): ∀st,au [5,7,8,36,37,38,46,47,48] [(48,.id 48)] [] st=GS a1 De Nn FX FY FZ F3 Np Nq Nr→ZX d Q ai7 [] st:=by
 intro st he
 refine ay he (aC (sR 48 hS (fun hS=>?_) (fun hS=>?_)))
 ·exact jR (E6 hd hQ hS)
 ·exact zF (ay (J:=wG a1 De FX FY FZ F3) (by kernel_rfl) (dh (cY (bk (jA hS hQ)))))
def rI(a1:S8)(x:(List Int)×S8×Int×(List S8)×Int×Int×Int×Int):Option (((List Int)×S8×Int×(List S8)×Int×Int×Int×Int)⊕(((List Int)×Int×(List S8)×Int×Int))):=(bif (decide (x.2.2.2.2.2.2.2<x.2.2.2.2.2.2.1)) then (lM a1 x.1 x.2.1 x.2.2.1 x.2.2.2.1 x.2.2.2.2.1 x.2.2.2.2.2.1 x.2.2.2.2.2.2.1 x.2.2.2.2.2.2.2 true) else (lM a1 x.1 x.2.1 x.2.2.1 x.2.2.2.1 x.2.2.2.2.1 x.2.2.2.2.2.1 x.2.2.2.2.2.2.1 x.2.2.2.2.2.2.2 false))
theorem Lr(hd:1≤d){a1:S8}{r:((List Int)×S8×Int×(List S8)×Int×Int×Int×Int)⊕(((List Int)×Int×(List S8)×Int×Int))}(hQ:FQ (bG (ni a1) (qg a1) r) Q){x:(List Int)×S8×Int×(List S8)×Int×Int×Int×Int}(hS:rI a1 x=some r)(he:ni a1 x st):ZX d Q ai8 [] st:=by
 refine ay he (zS (sB 48 hS (fun hS=>?_) (fun hS=>?_)))
 ·exact zK (uo hd hQ hS _ (by kernel_rfl))
 ·exact jL (uo hd hQ hS)
def PM(a1:S8)(F4:List Int)(Df:S8)(Jr:List S8)(Js Jt:Int):St:=⟨(up (up (up (up (up u0 38 (dI Jt)) 37 (dI Js)) 36 (dE dM Jr)) 7 (.d (.str Df))) 5 (.r (.aJ 48 0 0 F4.length))),(up h0 48 ⟨0,some (.own 3 1 (eI.cells F4))⟩)⟩
def BW(a1:S8)(F4:List Int)(Df:S8)(Jr:List S8)(Js Jt:Int):Option (((List Int)×(List S8)×Int×Int)⊕(((List Int)))):=((b9 (rI a1) (F4,Df,(-1),Jr,Js,Jt,(Df.length:Int),0)).bind fun z49=>((eN 8 z49.1 ([z49.2.1]:List Int)).bind fun qh=>(some (.inl (qh,z49.2.2.1,z49.2.2.2.1,(IntKind.i64.wrap (z49.2.2.2.2+1)))))))
theorem Ls(hd:1≤d){a1:S8}{r:((List Int)×(List S8)×Int×Int)⊕(((List Int)))}(hQ:FQ (bG (qF a1) (um a1) r) Q){F4:List Int}{Df:S8}{Jr:List S8}{Js Jt:Int}(hS:BW a1 F4 Df Jr Js Jt=some r): ∀st,au [5,7,36,37,38] [(48,.id 48)] [] st=PM a1 F4 Df Jr Js Jt→ZX d Q ai9 [.blk 3,.seq ai_] st:=by
 intro st he
 refine ay he (zS (zL 1 (zK (aC (zS (zL 3 (zK (bz (aq hS (fun z49 S0 hS=>dN (ni a1) (qg a1) (fun x st r Q h0 hS hQ=>Lr hd hQ hS h0) (x:=(F4,Df,(-1),Jr,Js,Jt,(Df.length:Int),0)) (z:=z49) (by show au _ _ _ _=_;kernel_rfl) S0 ?_))))))))))
 intro e bl _ hX
 obtain ⟨rfl,rfl⟩:_∧_:=hX
 exact j9 (cj (a_ (zL 3 (aq hS (fun qh Ns hS=>zO (v:=(.r (.aJ 48 1 0 qh.length))) (aD:= [(48,⟨1,some (.own 3 1 (eI.cells qh))⟩)]) (some 64) (.app 3 1 8 (tm 61) (tm 63)) (eL eI (b:=48) (g:=0) (n:=z49.1.length) (xs:=z49.1) (ys:= [z49.2.1]) ((congrArg (fJ _) (by kernel_rfl:bU _ (.tmp 63)=(.r (.aJ 512 1 0 (([z49.2.1]:List Int).length))))).trans (cX eI (e:=3) (k:=1) (xs:= [z49.2.1]) (by kernel_rfl) rfl rfl)) rfl (by kernel_rfl) rfl (by kernel_rfl) rfl Ns) (lL hS hQ))))))
def PN(a1:S8)(AP:List Int)(Dg:List S8)(Nt Dh:Int):St:=⟨(up (up (up (up u0 38 (dI Dh)) 37 (dI Nt)) 36 (dE dM Dg)) 5 (.r (.aJ 48 0 0 AP.length))),(up h0 48 ⟨0,some (.own 3 1 (eI.cells AP))⟩)⟩
def vq(a1:S8)(AP:List Int)(Dg:List S8)(Nt Dh:Int):Option (((List Int)×(List S8)×Int×Int)⊕(((List Int)))):=((idx Dg Dh).bind fun z44=>(bif (decide ((AP.length:Int)=32)) then (some (.inr AP)) else (BW a1 AP z44 Dg Nt Dh)))
theorem Lt(hd:1≤d){a1:S8}{r:((List Int)×(List S8)×Int×Int)⊕(((List Int)))}(hQ:FQ (bG (qF a1) (um a1) r) Q){AP:List Int}{Dg:List S8}{Nt Dh:Int}(hS:vq a1 AP Dg Nt Dh=some r): ∀st,au [5,36,37,38] [(48,.id 48)] [] st=PN a1 AP Dg Nt Dh→ZX d Q aja [] st:=by
 intro st he
 refine ay he (aC (bz (zS (aq hS (fun z44 Ju hS=>zO (v:=(.cD (dM.enc z44++(dM.cells (Dg.drop ((Dh:Int).toNat+1)))))) (aD:= []) (some 40) (.jz 9 1 (tm 36) (tm 38)) (fQ dM (kk:= .i64) (xs:=Dg) (j:=Dh) (by kernel_rfl) (by kernel_rfl) Ju rfl (by intro h;cases h)) (zL 2 (zK (aC (zS (zL 2 (sB 44 hS (fun hS=>?_) (fun hS=>?_))))))))))))
 ·exact zK (zT (ay (J:=vp a1 AP) (by kernel_rfl) (dh (cY (Zq rfl (cY (bk (jA hS hQ))))))))
 ·exact jL (Ls hd hQ hS)
def PS(a1:S8)(Di:List Int)(Nu:List S8)(Nv Nw:Int)(Nx:Bool):St:=⟨(up (up (up (up (up u0 39 (dB Nx)) 38 (dI Nw)) 37 (dI Nv)) 36 (dE dM Nu)) 5 (.r (.aJ 48 0 0 Di.length))),(up h0 48 ⟨0,some (.own 3 1 (eI.cells Di))⟩)⟩
def og(a1:S8)(Di:List Int)(Nu:List S8)(Nv Nw:Int)(Nx:Bool):Option (((List Int)×(List S8)×Int×Int)⊕(((List Int)))):=(bif Nx then (vq a1 Di Nu Nv Nw) else (some (.inr Di)))
theorem AQ(hd:1≤d){a1:S8}{r:((List Int)×(List S8)×Int×Int)⊕(((List Int)))}(hQ:FQ (bG (qF a1) (um a1) r) Q){Di:List Int}{Nu:List S8}{Nv Nw:Int}{Nx:Bool}(hS:og a1 Di Nu Nv Nw Nx=some r): ∀st,au [5,36,37,38,39] [(48,.id 48)] [] st=PS a1 Di Nu Nv Nw Nx→ZX d Q ajb [] st:=by
 intro st he
 refine ay he (aC (sR 39 hS (fun hS=>?_) (fun hS=>?_)))
 ·exact jR (Lt hd hQ hS)
 ·exact zF (ay (J:=vp a1 Di) (by kernel_rfl) (dh (cY (bk (jA hS hQ)))))
def zj(a1:S8)(x:(List Int)×(List S8)×Int×Int):Option (((List Int)×(List S8)×Int×Int)⊕(((List Int)))):=(bif (decide (x.2.2.2<x.2.2.1)) then (og a1 x.1 x.2.1 x.2.2.1 x.2.2.2 true) else (og a1 x.1 x.2.1 x.2.2.1 x.2.2.2 false))
theorem WQ(hd:1≤d){a1:S8}{r:((List Int)×(List S8)×Int×Int)⊕(((List Int)))}(hQ:FQ (bG (qF a1) (um a1) r) Q){x:(List Int)×(List S8)×Int×Int}(hS:zj a1 x=some r)(he:qF a1 x st):ZX d Q ajc [] st:=by
 refine ay he (zS (sB 39 hS (fun hS=>?_) (fun hS=>?_)))
 ·exact zK (AQ hd hQ hS _ (by kernel_rfl))
 ·exact jL (AQ hd hQ hS)
def afn(a1:S8):St:=⟨(up u0 0 (.d (.str a1))),h0⟩
def PT(a1:S8):Option ((List Int)×Int):=((mz a1 [59]).bind fun z28=>((b9 (zj a1) ([],z28,(z28.length:Int),0)).bind fun z51=>(some (z51,0))))
theorem WR(hd:1≤d){a1:S8}{r:(List Int)×Int}(hQ:FQ (WO r) Q)(hS:PT a1=some r): ∀st,au [0] [] [] st=afn a1→ZX d Q ajd [] st:=by
 intro st he
 refine ay he (zS (zL 1 (zK (aC (zS (zL 1 (aq hS (fun z28 S3 hS=>zC 36 (PK (aU hd rfl) S3) (zL 2 (zK (bz (aq hS (fun z51 S4 hS=>dN (qF a1) (um a1) (fun x st r Q h0 hS hQ=>WQ hd hQ hS h0) (x:=([],z28,(z28.length:Int),0)) (z:=z51) (by show au _ _ _ _=_;kernel_rfl) S4 ?_)))))))))))))
 intro e bl _ hX
 obtain ⟨rfl,rfl⟩:_∧_:=hX
 exact j9 (cj (zS (zL 3 (zK (cM (bk (eA hS hQ (fR Jp))))))))
def afo(a1:S8)(x:Int):St:=⟨(up (up (up u0 15 (dI x)) 14 (dI (a1.length:Int))) 0 (.d (.str a1))),h0⟩
def uq(a1:S8)(x:Int)(st:St):Prop:=au [0,14,15] [] [] st=afo a1 x
def Dj(a1:S8):St:=⟨(up u0 0 (.d (.str a1))),h0⟩
def zk(a1:S8)(z:Unit⊕((List Int)×Int))(e:PX)(st:St):Prop:=(match z with | .inl z=>e= .exit 0∧st=Dj a1 | .inr z=>e= .ret∧dY Wh.fin st=SY z.1 z.2)
def Lu(a1:S8)(uu:Int):St:=⟨(up (up (up u0 15 (dI uu)) 14 (dI (a1.length:Int))) 0 (.d (.str a1))),h0⟩
def sZ(a1:S8)(uu:Int):Option (Int⊕(Unit⊕((List Int)×Int))):=((idx a1 uu).bind fun Lv=>(bif (!decide ((Lv.toNat:Int)=59)) then ((idx a1 uu).bind fun z53=>(bif (decide ((z53.toNat:Int)<48)) then (some (.inr (.inr ([],4)))) else ((idx a1 uu).bind fun E7=>(bif (decide (57<(E7.toNat:Int))) then (some (.inr (.inr ([],4)))) else (some (.inl (IntKind.i64.wrap (uu+1)))))))) else (some (.inl (IntKind.i64.wrap (uu+1))))))
theorem Jv(hd:1≤d){a1:S8}{r:Int⊕(Unit⊕((List Int)×Int))}(hQ:FQ (bG (uq a1) (zk a1) r) Q){uu:Int}(hS:sZ a1 uu=some r): ∀st,au [0,14,15] [] [] st=Lu a1 uu→ZX d Q ZC [] st:=by
 intro st he
 refine ay he (aC (bz (zS (zL 2 (zK (zS (zL 2 (aq hS (fun Lv S5 hS=>zO (v:=(.d (.int .u8 (Lv.toNat:Int)))) (aD:= []) (some 20) (.iw (tm 18) (tm 19)) (fq (kk:= .i64) (s:=a1) (j:=uu) (by kernel_rfl) (by kernel_rfl) S5) (sB 21 hS (fun hS=>?_) (fun hS=>?_)))))))))))
 ·refine zL 3 (aq hS (fun z53 S6 hS=>zG (v:=(.d (.int .u8 (z53.toNat:Int)))) (aD:= []) (some 25) 22 true (.iw (tm 23) (tm 24)) (fq (kk:= .i64) (s:=a1) (j:=uu) (by kernel_rfl) (by kernel_rfl) S6) (sB 26 hS (fun hS=>?_) (fun hS=>?_))))
  ·exact zL 7 (zK (zT (zS (zL 2 (zK (cM (cr (bP (bk (mX hS hQ))))))))))
  ·refine zL 3 (aq hS (fun E7 Jw hS=>zG (v:=(.d (.int .u8 (E7.toNat:Int)))) (aD:= []) (some 30) 27 false (.iw (tm 28) (tm 29)) (fq (kk:= .i64) (s:=a1) (j:=uu) (by kernel_rfl) (by kernel_rfl) Jw) (sB 31 hS (fun hS=>?_) (fun hS=>?_))))
   ·exact zL 2 (zK (zT (zS (zL 2 (zK (cM (cr (bP (bk (mX hS hQ))))))))))
   ·exact lL hS hQ
 ·exact lL hS hQ
def Lx(a1:S8)(Ny:Int)(Nz:Bool):St:=⟨(up (up (up (up u0 16 (dB Nz)) 15 (dI Ny)) 14 (dI (a1.length:Int))) 0 (.d (.str a1))),h0⟩
def mD(a1:S8)(Ny:Int)(Nz:Bool):Option (Int⊕(Unit⊕((List Int)×Int))):=(bif Nz then (sZ a1 Ny) else (some (.inr (.inl ()))))
theorem xE(hd:1≤d){a1:S8}{r:Int⊕(Unit⊕((List Int)×Int))}(hQ:FQ (bG (uq a1) (zk a1) r) Q){Ny:Int}{Nz:Bool}(hS:mD a1 Ny Nz=some r): ∀st,au [0,14,15,16] [] [] st=Lx a1 Ny Nz→ZX d Q ZE [] st:=by
 intro st he
 refine ay he (aC (sR 16 hS (fun hS=>?_) (fun hS=>?_)))
 ·exact jR (Jv hd hQ hS)
 ·exact zF (ay (J:=Dj a1) (by kernel_rfl) (dh (cY (bk (jA hS hQ)))))
def zl(a1:S8)(x:Int):Option (Int⊕(Unit⊕((List Int)×Int))):=(bif (decide (x<(a1.length:Int))) then (mD a1 x true) else (mD a1 x false))
theorem WS(hd:1≤d){a1:S8}{r:Int⊕(Unit⊕((List Int)×Int))}(hQ:FQ (bG (uq a1) (zk a1) r) Q){x:Int}(hS:zl a1 x=some r)(he:uq a1 x st):ZX d Q ZF [] st:=by
 refine ay he (zS (sB 16 hS (fun hS=>?_) (fun hS=>?_)))
 ·exact zK (xE hd hQ hS _ (by kernel_rfl))
 ·exact jL (xE hd hQ hS)
def afp(a1:S8):St:=⟨(up u0 0 (.d (.str a1))),h0⟩
def Hp(a1:S8):Option ((List Int)×Int):=((b9 (zl a1) 0).bind fun E8=>(Sum.elim (fun z56=>(PT a1)) (fun WT=>(some (WT.1,WT.2))) E8))
theorem WU(hd:1≤d){a1:S8}{r:(List Int)×Int}(hQ:FQ (WO r) Q)(hS:Hp a1=some r): ∀st,au [0] [] [] st=afp a1→ZX d Q ZG [] st:=by
 intro st he
 refine ay he (aC (zS (zL 3 (zK (bz (aq hS (fun E8 ab6 hS=>dN (uq a1) (zk a1) (fun x st r Q h0 hS hQ=>WS hd hQ hS h0) (x:=0) (z:=E8) (by show au _ _ _ _=_;kernel_rfl) ab6 ?_)))))))
 rcases E8 with z56 | WT
 ·replace hS:=(show _=_ from hS)
  simp only [ua] at hS
  intro e bl _ hX
  obtain ⟨rfl,rfl⟩:_∧_:=hX
  exact jK (WR hd hQ hS)
 ·simp only [ud] at hS
  intro e bl _ hX
  obtain ⟨rfl,hX⟩:_∧_:=hX
  exact cr (bP (bk (eA hS hQ (jv (by kernel_rfl) ((congrArg (fun s=>cP s 0 Wh.res) hX).trans Jp)))))
def f54(a1:S8):Option ((List Int)×Int):=((rj a1 [48,49,50,51,52,53,54,55,56,57,59]).bind fun z58=>(bif (!decide (z58=([]:S8))) then (some ([],4)) else (Hp a1)))
theorem ab7{d:Nat}(hd:1≤d){a1:S8}{r:(List Int)×Int}(hS:f54 a1=some r):bW av aX d 54 [(.d (.str a1))] []=some ((.bE [(.r (.own 0 3 1 r.1.length (eI.cells r.1))),(dI r.2)]),[]):=by
 refine cL WO hd (fun Q hQ=>?_) alR
 refine zS (zL 2 (zK (aC (zS (zL 1 (aq hS (fun z58 amm hS=>zC 11 (SX (aU hd rfl) amm) (sB 12 hS (fun hS=>?_) (fun hS=>?_)))))))))
 ·exact zK (zT (zS (zL 2 (zK (cM (bP (bk (eA hS hQ (fR Jp)))))))))
 ·exact jL (WU hd hQ hS)
/- farwriter/parse.within -/
def azf(r:Bool)(e:PX)(st:St):Prop:=aV c55 0 ((dB r),[]) e st
def f55(a1 a2 a3:Int):Option (Bool):=(bif (decide (a2≤a1)) then (bif (decide (a1≤a3)) then (some true) else (some false)) else (some false))
theorem Dk{d:Nat}(hd:1≤d){a1 a2 a3:Int}{r:Bool}(hS:f55 a1 a2 a3=some r):bW av aX d 55 [(dI a1),(dI a2),(dI a3)] []=some ((dB r),[]):=by
 refine cL azf hd (fun Q hQ=>?_) alS
 refine zS (zL 1 (zK (zS (zL 2 (sB 9 hS (fun hS=>?_) (fun hS=>?_))))))
 ·refine zL 3 (sB 13 hS (fun hS=>?_) (fun hS=>?_))
  ·exact nL hS hQ
  ·exact nL hS hQ
 ·exact nL hS hQ
/- farwriter/parse.inters -/
def S7(p9:Bool):St:=⟨(up u0 4 (dB p9)),h0⟩
theorem amn{p9:Bool}:cP (S7 p9) 0 Wi.res=some ((dB p9),[]):=by
 kernel_rfl
def azg(r:Bool)(e:PX)(st:St):Prop:=aV Wi 0 ((dB r),[]) e st
def afr(a1:S8)(a2 x:Int):St:=⟨(up (up (up (up u0 8 (dI x)) 7 (dI (a1.length:Int))) 1 (dI a2)) 0 (.d (.str a1))),h0⟩
def uv(a1:S8)(a2 x:Int)(st:St):Prop:=au [0,1,7,8] [] [] st=afr a1 a2 x
def Dl(a1:S8)(a2:Int):St:=⟨(up (up u0 1 (dI a2)) 0 (.d (.str a1))),h0⟩
def zm(a1:S8)(a2:Int)(z:Unit⊕Bool)(e:PX)(st:St):Prop:=(match z with | .inl z=>e= .exit 0∧st=Dl a1 a2 | .inr z=>e= .ret∧dY Wi.fin st=S7 z)
def PU(a1:S8)(a2 jJ:Int):St:=⟨(up (up (up (up u0 8 (dI jJ)) 7 (dI (a1.length:Int))) 1 (dI a2)) 0 (.d (.str a1))),h0⟩
def vt(a1:S8)(a2 jJ:Int):Option (Int⊕(Unit⊕Bool)):=((idx a1 jJ).bind fun z7=>((f55 (z7.toNat:Int) 32 47).bind fun z8=>(bif (!z8) then (some (.inr (.inr false))) else (some (.inl (IntKind.i64.wrap (jJ+1)))))))
theorem Lz(hd:2≤d){a1:S8}{a2:Int}{r:Int⊕(Unit⊕Bool)}(hQ:FQ (bG (uv a1 a2) (zm a1 a2) r) Q){jJ:Int}(hS:vt a1 a2 jJ=some r): ∀st,au [0,1,7,8] [] [] st=PU a1 a2 jJ→ZX d Q aje [] st:=by
 intro st he
 refine ay he (aC (bz (zS (zL 2 (zK (zS (zL 2 (aq hS (fun z7 l8 hS=>zO (v:=(.d (.int .u8 (z7.toNat:Int)))) (aD:= []) (some 13) (.iw (tm 11) (tm 12)) (fq (kk:= .i64) (s:=a1) (j:=jJ) (by kernel_rfl) (by kernel_rfl) l8) (zO (v:=(dI (z7.toNat:Int))) (aD:= []) (some 14) (.ku .i64 (tm 13)) (gC (kk:= .u8) (a:=(z7.toNat:Int)) (by kernel_rfl) (qf _)) (aq hS (fun z8 je hS=>zC 15 (Dk (aU hd rfl) je) (zL 1 (zK (sR 16 hS (fun hS=>?_) (fun hS=>?_))))))))))))))))
 ·exact zT (zS (zL 1 (zK (cM (cr (bP (bk (mX hS hQ))))))))
 ·exact lR hS hQ
def PW(a1:S8)(a2 uh:Int)(gq:Bool):St:=⟨(up (up (up (up (up u0 9 (dB gq)) 8 (dI uh)) 7 (dI (a1.length:Int))) 1 (dI a2)) 0 (.d (.str a1))),h0⟩
def oh(a1:S8)(a2 uh:Int)(gq:Bool):Option (Int⊕(Unit⊕Bool)):=(bif gq then (vt a1 a2 uh) else (some (.inr (.inl ()))))
theorem AR(hd:2≤d){a1:S8}{a2:Int}{r:Int⊕(Unit⊕Bool)}(hQ:FQ (bG (uv a1 a2) (zm a1 a2) r) Q){uh:Int}{gq:Bool}(hS:oh a1 a2 uh gq=some r): ∀st,au [0,1,7,8,9] [] [] st=PW a1 a2 uh gq→ZX d Q ajf [] st:=by
 intro st he
 refine ay he (aC (sR 9 hS (fun hS=>?_) (fun hS=>?_)))
 ·exact jR (Lz hd hQ hS)
 ·exact zF (ay (J:=Dl a1 a2) (by kernel_rfl) (dh (cY (bk (jA hS hQ)))))
def zn(a1:S8)(a2 x:Int):Option (Int⊕(Unit⊕Bool)):=(bif (decide (x<(a1.length:Int))) then (oh a1 a2 x true) else (oh a1 a2 x false))
theorem WV(hd:2≤d){a1:S8}{a2:Int}{r:Int⊕(Unit⊕Bool)}(hQ:FQ (bG (uv a1 a2) (zm a1 a2) r) Q){x:Int}(hS:zn a1 a2 x=some r)(he:uv a1 a2 x st):ZX d Q ajg [] st:=by
 refine ay he (zS (sB 9 hS (fun hS=>?_) (fun hS=>?_)))
 ·exact zK (AR hd hQ hS _ (by kernel_rfl))
 ·exact jL (AR hd hQ hS)
def f56(a1:S8)(a2:Int):Option (Bool):=((b9 (zn a1 a2) 0).bind fun z9=>(Sum.elim (fun dG=>(bif (decide ((a1.length:Int)≤a2)) then (some true) else (some false))) (fun cS=>(some cS)) z9))
theorem atS{d:Nat}(hd:2≤d){a1:S8}{a2:Int}{r:Bool}(hS:f56 a1 a2=some r):bW av aX d 56 [(.d (.str a1)),(dI a2)] []=some ((dB r),[]):=by
 refine cL azg hd (fun Q hQ=>?_) alT
 refine zS (zL 1 (zK (aC (zS (zL 3 (zK (bz (aq hS (fun z9 jI hS=>dN (uv a1 a2) (zm a1 a2) (fun x st r Q h0 hS hQ=>WV hd hQ hS h0) (x:=0) (z:=z9) (by show au _ _ _ _=_;kernel_rfl) jI ?_)))))))))
 rcases z9 with dG | cS
 ·replace hS:=(show _=_ from hS)
  simp only [ua] at hS
  intro e bl _ hX
  obtain ⟨rfl,rfl⟩:_∧_:=hX
  refine j9 (cj (zS (zL 3 (sB 21 hS (fun hS=>?_) (fun hS=>?_)))))
  ·exact nL hS hQ
  ·exact nL hS hQ
 ·simp only [ud] at hS
  intro e bl _ hX
  obtain ⟨rfl,hX⟩:_∧_:=hX
  exact cr (bP (bk (eA hS hQ (jv (by kernel_rfl) ((congrArg (fun s=>cP s 0 Wi.res) hX).trans amn)))))
/- farwriter/parse.Check -/
def Jx(r:Int)(e:PX)(st:St):Prop:=aV c21 0 ((dI r),[]) e st
def afs(a1:aR)(ko:Bool):St:=⟨(up (up u0 6 (dB ko)) 1 (pt 16)),(up h0 16 ⟨0,some (.box (BO a1))⟩)⟩
def oG(a1:aR)(ko:Bool):Option (Int):=(bif ko then (bif (decide ((a1.Text.length:Int)≤256)) then (bif (decide (a1.Text=([]:S8))) then (some 0) else (bif (decide (a1.State=7)) then (some 0) else (bif (decide (a1.State=8)) then (some 0) else (some 4)))) else (some 4)) else (some 4))
theorem l9(hd:3≤d){a1:aR}{r:Int}(hQ:FQ (Jx r) Q){ko:Bool}(hS:oG a1 ko=some r): ∀st,au [1,6] [(16,.id 16)] [] st=afs a1 ko→ZX d Q ajh [] st:=by
 intro st he
 refine ay he (zS (zL 2 (sL 85 hS (fun hS=>?_) (fun hS=>?_))))
 ·refine zL 3 (sB 89 hS (fun hS=>?_) (fun hS=>?_))
  ·refine zL 4 (sB 94 hS (fun hS=>?_) (fun hS=>?_))
   ·exact nL hS hQ
   ·refine zL 3 (sB 98 hS (fun hS=>?_) (fun hS=>?_))
    ·exact nL hS hQ
    ·refine zL 4 (sB 103 hS (fun hS=>?_) (fun hS=>?_))
     ·exact nL hS hQ
     ·exact nL hS hQ
  ·exact nL hS hQ
 ·exact nL hS hQ
def aft(a1:aR)(eX:Int)(fV:Bool):St:=⟨(up (up (up u0 6 (dB fV)) 5 (dI eX)) 1 (pt 16)),(up h0 16 ⟨0,some (.box (BO a1))⟩)⟩
def qi(a1:aR)(eX:Int)(fV:Bool):Option (Int):=(bif fV then (bif (decide (eX=0)) then (bif (decide ((a1.Args.length:Int)≤100)) then (bif (decide (a1.Args=([]:S8))) then (oG a1 true) else (bif (decide (a1.State=4)) then (oG a1 true) else (bif (decide (a1.State=5)) then (oG a1 true) else (oG a1 false)))) else (oG a1 false)) else (oG a1 false)) else (oG a1 false))
theorem om(hd:3≤d){a1:aR}{r:Int}(hQ:FQ (Jx r) Q){eX:Int}{fV:Bool}(hS:qi a1 eX fV=some r): ∀st,au [1,5,6] [(16,.id 16)] [] st=aft a1 eX fV→ZX d Q aji [] st:=by
 intro st he
 refine ay he (zS (zL 2 (sL 59 hS (fun hS=>?_) (fun hS=>?_))))
 ·refine zL 1 (sB 61 hS (fun hS=>?_) (fun hS=>?_))
  ·refine zL 5 (sB 67 hS (fun hS=>?_) (fun hS=>?_))
   ·refine zL 4 (sB 72 hS (fun hS=>?_) (fun hS=>?_))
    ·exact zL 12 (zK (l9 hd hQ hS _ (by kernel_rfl)))
    ·refine zL 3 (sB 76 hS (fun hS=>?_) (fun hS=>?_))
     ·exact zL 8 (zK (l9 hd hQ hS _ (by kernel_rfl)))
     ·refine zL 4 (sB 81 hS (fun hS=>?_) (fun hS=>?_))
      ·exact zL 3 (zK (l9 hd hQ hS _ (by kernel_rfl)))
      ·exact zL 3 (zK (l9 hd hQ hS _ (by kernel_rfl)))
   ·exact zL 17 (zK (l9 hd hQ hS _ (by kernel_rfl)))
  ·exact zL 23 (zK (l9 hd hQ hS _ (by kernel_rfl)))
 ·exact jL (l9 hd hQ hS)
def afu(a1:aR)(gP:Bool)(iC:Int)(iD:Bool):St:=⟨(up (up (up (up u0 6 (dB iD)) 5 (dI iC)) 3 (dB gP)) 1 (pt 16)),(up h0 16 ⟨0,some (.box (BO a1))⟩)⟩
def qj(a1:aR)(gP:Bool)(iC:Int)(iD:Bool):Option (Int):=(bif iD then ((f56 a1.Inter 3).bind fun z9=>(bif z9 then (bif (!decide (a1.Inter=([]:S8))) then (bif (decide (true=gP)) then (qi a1 iC true) else (qi a1 iC false)) else (bif (decide (false=gP)) then (qi a1 iC true) else (qi a1 iC false))) else (qi a1 iC false))) else (qi a1 iC false))
theorem oo(hd:3≤d){a1:aR}{r:Int}(hQ:FQ (Jx r) Q){gP:Bool}{iC:Int}{iD:Bool}(hS:qj a1 gP iC iD=some r): ∀st,au [1,3,5,6] [(16,.id 16)] [] st=afu a1 gP iC iD→ZX d Q ajj [] st:=by
 intro st he
 refine ay he (zS (zL 2 (sL 46 hS (fun hS=>?_) (fun hS=>?_))))
 ·refine zL 2 (aq hS (fun z9 jI hS=>zG (some 49) 46 true (.call 56 [(tm 48),(ki 3)]) (bX (atS (aU hd rfl) jI)) (zL 2 (sL 51 hS (fun hS=>?_) (fun hS=>?_)))))
  ·refine zL 2 (sB 54 hS (fun hS=>?_) (fun hS=>?_))
   ·refine zL 1 (sB 56 hS (fun hS=>?_) (fun hS=>?_))
    ·exact zL 2 (zK (om hd hQ hS _ (by kernel_rfl)))
    ·exact zL 2 (zK (om hd hQ hS _ (by kernel_rfl)))
   ·refine zL 1 (sB 56 hS (fun hS=>?_) (fun hS=>?_))
    ·exact zL 2 (zK (om hd hQ hS _ (by kernel_rfl)))
    ·exact zL 2 (zK (om hd hQ hS _ (by kernel_rfl)))
  ·exact zL 7 (zK (om hd hQ hS _ (by kernel_rfl)))
 ·exact jL (om hd hQ hS)
def afv(a1:aR)(iQ:Bool):St:=⟨(up (up u0 3 (dB iQ)) 1 (pt 16)),(up h0 16 ⟨0,some (.box (BO a1))⟩)⟩
def zo(a1:aR)(iQ:Bool):Option (Int):=((f54 a1.Args).bind fun z5=>((f55 a1.State 0 10).bind fun z6=>(bif z6 then (bif (decide (a1.Mark=0)) then (qj a1 iQ z5.2 true) else ((f55 a1.Mark 60 63).bind fun dG=>(bif dG then (bif (decide (a1.State=4)) then (qj a1 iQ z5.2 true) else (bif (decide (a1.State=5)) then (qj a1 iQ z5.2 true) else (qj a1 iQ z5.2 false))) else (qj a1 iQ z5.2 false)))) else (qj a1 iQ z5.2 false))))
theorem BX(hd:3≤d){a1:aR}{r:Int}(hQ:FQ (Jx r) Q){iQ:Bool}(hS:zo a1 iQ=some r): ∀st,au [1,3] [(16,.id 16)] [] st=afv a1 iQ→ZX d Q ajk [] st:=by
 intro st he
 refine ay he (zS (zL 2 (aq hS (fun z5 jZ hS=>zC 18 (ab7 (aU hd rfl) jZ) (zL 5 (zK (zS (zL 2 (aq hS (fun z6 nH hS=>zC 23 (Dk (aU hd rfl) nH) (zL 1 (zK (zS (zL 2 (sL 25 hS (fun hS=>?_) (fun hS=>?_))))))))))))))))
 ·refine zL 2 (sB 28 hS (fun hS=>?_) (fun hS=>?_))
  ·exact zL 17 (zK (oo hd hQ hS _ (by kernel_rfl)))
  ·refine zL 3 (aq hS (fun dG jF hS=>zG (some 32) 29 false (.call 55 [(tm 31),(ki 60),(ki 63)]) (bX (Dk (aU hd rfl) jF)) (zL 1 (sL 33 hS (fun hS=>?_) (fun hS=>?_)))))
   ·refine zL 2 (sB 36 hS (fun hS=>?_) (fun hS=>?_))
    ·exact zL 9 (zK (oo hd hQ hS _ (by kernel_rfl)))
    ·refine zL 3 (sB 40 hS (fun hS=>?_) (fun hS=>?_))
     ·exact zL 5 (zK (oo hd hQ hS _ (by kernel_rfl)))
     ·exact zL 5 (zK (oo hd hQ hS _ (by kernel_rfl)))
   ·exact zL 12 (zK (oo hd hQ hS _ (by kernel_rfl)))
 ·exact jL (oo hd hQ hS)
def f21(a1:aR):Option (Int):=(bif (decide (a1.State=2)) then (zo a1 true) else (bif (decide (a1.State=5)) then (zo a1 true) else (zo a1 false)))
theorem ab8{d:Nat}(hd:3≤d){a1:aR}{r:Int}(hS:f21 a1=some r):bW av aX d 21 [(.agg (BO a1))] []=some ((dI r),[]):=by
 refine cL Jx hd (fun Q hQ=>?_) alx
 refine zS (zL 2 (zK (zS (zL 2 (sB 9 hS (fun hS=>?_) (fun hS=>?_))))))
 ·exact zL 6 (zK (BX hd hQ hS _ (by kernel_rfl)))
 ·refine zL 3 (sB 13 hS (fun hS=>?_) (fun hS=>?_))
  ·exact zL 2 (zK (BX hd hQ hS _ (by kernel_rfl)))
  ·exact jL (BX hd hQ hS)
/- farwriter/grid.size -/
def azh(r:Int)(e:PX)(st:St):Prop:=aV c88 0 ((dI r),[]) e st
def f88(a1 a2:Int):Option (Int):=(bif (decide (a1<1)) then (some 1) else (bif (decide (160<a1)) then (some 1) else (bif (decide (a2<1)) then (some 1) else (bif (decide (60<a2)) then (some 1) else (some 0)))))
theorem ab9{d:Nat}(hd:1≤d){a1 a2 r:Int}(hS:f88 a1 a2=some r):bW av aX d 88 [(dI a1),(dI a2)] []=some ((dI r),[]):=by
 refine cL azh hd (fun Q hQ=>?_) ama
 refine zS (zL 1 (zK (aC (zS (zL 1 (sB 6 hS (fun hS=>?_) (fun hS=>?_)))))))
 ·exact nL hS hQ
 ·refine zL 2 (sB 9 hS (fun hS=>?_) (fun hS=>?_))
  ·exact nL hS hQ
  ·refine zL 3 (sB 13 hS (fun hS=>?_) (fun hS=>?_))
   ·exact nL hS hQ
   ·refine zL 3 (sB 17 hS (fun hS=>?_) (fun hS=>?_))
    ·exact nL hS hQ
    ·exact nL hS hQ
/- farwriter/grid.row -/
def azi(r:(List ah))(e:PX)(st:St):Prop:=aV c89 0 ((dE ak r),[.box []]) e st
def f89(a1:bQ)(a2:Int):Option ((List ah)):=((pW a1.Cells (IntKind.i64.wrap (a2*a1.bR)) (IntKind.i64.wrap ((IntKind.i64.wrap (a2+1))*a1.bR))).bind fun z2=>(some z2))
theorem ab_{d:Nat}(hd:1≤d){a1:bQ}{a2:Int}{r:(List ah)}(hS:f89 a1 a2=some r):bW av aX d 89 [(ZA a1),(dI a2)] []=some ((dE ak r),[.box []]):=by
 refine cL azi hd (fun Q hQ=>?_) SN
 exact zS (zL 2 (zK (zS (zL 11 (aq hS (fun z2 hz2 hS=>zO (v:=(dE ak z2)) (aD:= []) (some 16) (.uW 87 4 (tm 6) (.some (tm 10)) (.some (tm 15))) (Zr ak (xs:=a1.Cells) (a:=(IntKind.i64.wrap (a2*a1.bR))) (c:=(IntKind.i64.wrap ((IntKind.i64.wrap (a2+1))*a1.bR))) (by kernel_rfl) rfl (lY _ (kk:= .i64) (j:=(IntKind.i64.wrap (a2*a1.bR))) (by kernel_rfl)) (lY _ (kk:= .i64) (j:=(IntKind.i64.wrap ((IntKind.i64.wrap (a2+1))*a1.bR))) (by kernel_rfl)) hz2) (nL hS hQ)))))))
/- farwriter/pen.color -/
def azj(r:Bool)(e:PX)(st:St):Prop:=aV c92 0 ((dB r),[]) e st
def f92(a1:Int):Option (Bool):=(bif (decide (0≤a1)) then (bif (decide (a1≤256)) then (some true) else (bif (decide (16777216≤a1)) then (bif (decide (a1<33554432)) then (some true) else (some false)) else (some false))) else (bif (decide (16777216≤a1)) then (bif (decide (a1<33554432)) then (some true) else (some false)) else (some false)))
theorem acd{d:Nat}(hd:1≤d){a1:Int}{r:Bool}(hS:f92 a1=some r):bW av aX d 92 [(dI a1)] []=some ((dB r),[]):=by
 refine cL azj hd (fun Q hQ=>?_) amd
 refine zS (zL 1 (zK (zS (zL 1 (sB 4 hS (fun hS=>?_) (fun hS=>?_))))))
 ·refine zL 2 (sB 7 hS (fun hS=>?_) (fun hS=>?_))
  ·exact nL hS hQ
  ·refine zL 3 (sB 11 hS (fun hS=>?_) (fun hS=>?_))
   ·refine zL 2 (sB 14 hS (fun hS=>?_) (fun hS=>?_))
    ·exact nL hS hQ
    ·exact nL hS hQ
   ·exact nL hS hQ
 ·refine zL 6 (sB 11 hS (fun hS=>?_) (fun hS=>?_))
  ·refine zL 2 (sB 14 hS (fun hS=>?_) (fun hS=>?_))
   ·exact nL hS hQ
   ·exact nL hS hQ
  ·exact nL hS hQ
/- farwriter/pen.Check -/
def azk(r:Int)(e:PX)(st:St):Prop:=aV c59 0 ((dI r),[]) e st
def f59(a1:bw):Option (Int):=(bif (decide (a1.Flags<0)) then (some 4) else (bif (decide (255<a1.Flags)) then (some 4) else ((f92 a1.eK).bind fun z3=>(bif (!z3) then (some 4) else ((f92 a1.dV).bind fun z4=>(bif (!z4) then (some 4) else (some 0)))))))
theorem Hq{d:Nat}(hd:2≤d){a1:bw}{r:Int}(hS:f59 a1=some r):bW av aX d 59 [(AB a1)] []=some ((dI r),[]):=by
 refine cL azk hd (fun Q hQ=>?_) alW
 refine zS (zL 2 (zK (aC (zS (zL 2 (sB 5 hS (fun hS=>?_) (fun hS=>?_)))))))
 ·exact nL hS hQ
 ·refine zL 3 (sB 9 hS (fun hS=>?_) (fun hS=>?_))
  ·exact nL hS hQ
  ·refine zL 4 (aq hS (fun z3 hz3 hS=>zG (some 14) 11 false (c1 92 13) (bX (acd (aU hd rfl) hz3)) (zL 3 (sL 17 hS (fun hS=>?_) (fun hS=>?_)))))
   ·exact nL hS hQ
   ·refine zL 2 (aq hS (fun z4 jf hS=>zG (some 20) 17 false (c1 92 19) (bX (acd (aU hd rfl) jf)) (zL 2 (zK (sR 22 hS (fun hS=>?_) (fun hS=>?_))))))
    ·exact nR hS hQ
    ·exact nR hS hQ
/- farwriter/width.in -/
def NB(oq:Bool):St:=⟨(up u0 4 (dB oq)),h0⟩
theorem afw{oq:Bool}:cP (NB oq) 0 Jb.res=some ((dB oq),[]):=by
 kernel_rfl
def atT(r:Bool)(e:PX)(st:St):Prop:=aV Jb 0 ((dB r),[]) e st
def WW(a1:Int)(a2:List (Int×Int))(x:Int):St:=⟨(up (up (up (up u0 9 (dI x)) 8 (dI (a2.length:Int))) 7 (dE ry a2)) 0 (dI a1)),h0⟩
def rJ(a1:Int)(a2:List (Int×Int))(x:Int)(st:St):Prop:=au [0,7,8,9] [] [] st=WW a1 a2 x
def AU(a1:Int)(a2:List (Int×Int)):St:=⟨u0,h0⟩
def vw(a1:Int)(a2:List (Int×Int))(z:Unit⊕Bool)(e:PX)(st:St):Prop:=(match z with | .inl z=>e= .exit 0∧st=AU a1 a2 | .inr z=>e= .ret∧dY Jb.fin st=NB z)
def LA(a1:Int)(a2:List (Int×Int))(oX:Int):St:=⟨(up (up (up (up u0 9 (dI oX)) 8 (dI (a2.length:Int))) 7 (dE ry a2)) 0 (dI a1)),h0⟩
def s4(a1:Int)(a2:List (Int×Int))(oX:Int):Option (Int⊕(Unit⊕Bool)):=((idx a2 oX).bind fun z4=>(bif (decide (z4.1≤a1)) then (bif (decide (a1≤z4.2)) then (some (.inr (.inr true))) else (some (.inl (IntKind.i64.wrap (oX+1))))) else (some (.inl (IntKind.i64.wrap (oX+1))))))
theorem Jy(hd:1≤d){a1:Int}{a2:List (Int×Int)}{r:Int⊕(Unit⊕Bool)}(hQ:FQ (bG (rJ a1 a2) (vw a1 a2) r) Q){oX:Int}(hS:s4 a1 a2 oX=some r): ∀st,au [0,7,8,9] [] [] st=LA a1 a2 oX→ZX d Q ZH [] st:=by
 intro st he
 refine ay he (aC (bz (zS (aq hS (fun z4 jf hS=>zO (v:=(.cD (ry.enc z4++(ry.cells (a2.drop ((oX:Int).toNat+1)))))) (aD:= []) (some 11) (.jz 35 2 (tm 7) (tm 9)) (fQ ry (kk:= .i64) (xs:=a2) (j:=oX) (by kernel_rfl) (by kernel_rfl) jf rfl (by intro h;cases h)) (zL 3 (zK (zS (zL 3 (sB 16 hS (fun hS=>?_) (fun hS=>?_)))))))))))
 ·refine zL 4 (sB 21 hS (fun hS=>?_) (fun hS=>?_))
  ·exact zL 1 (zK (zT (zS (zL 1 (zK (cM (cr (bP (bk (mX hS hQ))))))))))
  ·exact lL hS hQ
 ·exact lL hS hQ
def LC(a1:Int)(a2:List (Int×Int))(p30:Int)(p31:Bool):St:=⟨(up (up (up (up (up u0 10 (dB p31)) 9 (dI p30)) 8 (dI (a2.length:Int))) 7 (dE ry a2)) 0 (dI a1)),h0⟩
def mE(a1:Int)(a2:List (Int×Int))(p30:Int)(p31:Bool):Option (Int⊕(Unit⊕Bool)):=(bif p31 then (s4 a1 a2 p30) else (some (.inr (.inl ()))))
theorem xF(hd:1≤d){a1:Int}{a2:List (Int×Int)}{r:Int⊕(Unit⊕Bool)}(hQ:FQ (bG (rJ a1 a2) (vw a1 a2) r) Q){p30:Int}{p31:Bool}(hS:mE a1 a2 p30 p31=some r): ∀st,au [0,7,8,9,10] [] [] st=LC a1 a2 p30 p31→ZX d Q ZI [] st:=by
 intro st he
 refine ay he (aC (sR 10 hS (fun hS=>?_) (fun hS=>?_)))
 ·exact jR (Jy hd hQ hS)
 ·exact zF (ay (J:=AU a1 a2) (by kernel_rfl) (dh (cY (bk (jA hS hQ)))))
def uw(a1:Int)(a2:List (Int×Int))(x:Int):Option (Int⊕(Unit⊕Bool)):=(bif (decide (x<(a2.length:Int))) then (mE a1 a2 x true) else (mE a1 a2 x false))
theorem S9(hd:1≤d){a1:Int}{a2:List (Int×Int)}{r:Int⊕(Unit⊕Bool)}(hQ:FQ (bG (rJ a1 a2) (vw a1 a2) r) Q){x:Int}(hS:uw a1 a2 x=some r)(he:rJ a1 a2 x st):ZX d Q ZJ [] st:=by
 refine ay he (zS (sB 10 hS (fun hS=>?_) (fun hS=>?_)))
 ·exact zK (xF hd hQ hS _ (by kernel_rfl))
 ·exact jL (xF hd hQ hS)
def f126(a1:Int)(a2:List (Int×Int)):Option (Bool):=((b9 (uw a1 a2) 0).bind fun z5=>(Sum.elim (fun z6=>(some false)) (fun z7=>(some z7)) z5))
theorem S_{d:Nat}(hd:1≤d){a1:Int}{a2:List (Int×Int)}{r:Bool}(hS:f126 a1 a2=some r):bW av aX d 126 [(dI a1),(dE ry a2)] []=some ((dB r),[]):=by
 refine cL atT hd (fun Q hQ=>?_) aee
 refine zS (zL 1 (zK (aC (zS (zL 3 (zK (bz (aq hS (fun z5 jZ hS=>dN (rJ a1 a2) (vw a1 a2) (fun x st r Q h0 hS hQ=>S9 hd hQ hS h0) (x:=0) (z:=z5) (by show au _ _ _ _=_;kernel_rfl) jZ ?_)))))))))
 rcases z5 with z6 | z7
 ·replace hS:=(show _=_ from hS)
  simp only [ua] at hS
  intro e bl _ hX
  obtain ⟨rfl,rfl⟩:_∧_:=hX
  exact nK hS hQ
 ·simp only [ud] at hS
  intro e bl _ hX
  obtain ⟨rfl,hX⟩:_∧_:=hX
  exact cr (bP (bk (eA hS hQ (jv (by kernel_rfl) ((congrArg (fun s=>cP s 0 Jb.res) hX).trans afw)))))
/- farwriter/width.Of -/
def amo(r:Int)(e:PX)(st:St):Prop:=aV c90 0 ((dI r),[]) e st
def afz(a1:Int)(p4:Bool):St:=⟨(up (up (up u0 25 (dB p4)) 4 (pt 40)) 0 (dI a1)),(up h0 40 ⟨0,some (.box ((ry.row 12 (fun i=>([(4352,4447),(11904,12350),(12353,19903),(19968,42191),(44032,55203),(63744,64255),(65072,65135),(65280,65376),(65504,65510),(127744,128591),(129280,129535),(131072,262141)]:List (Int×Int)).getD i (0,0)))++ []))⟩)⟩
def Dm(a1:Int)(p4:Bool):Option (Int):=(bif p4 then (some 0) else ((f126 a1 [(4352,4447),(11904,12350),(12353,19903),(19968,42191),(44032,55203),(63744,64255),(65072,65135),(65280,65376),(65504,65510),(127744,128591),(129280,129535),(131072,262141)]).bind fun z4=>(bif z4 then (some 2) else (some 1))))
theorem BZ(hd:2≤d){a1 r:Int}(hQ:FQ (amo r) Q){p4:Bool}(hS:Dm a1 p4=some r): ∀st,au [0,4,25] [(40,.id 40)] [] st=afz a1 p4→ZX d Q ajn [.blk 0,.seq ajo] st:=by
 intro st he
 refine ay he (sR 25 hS (fun hS=>?_) (fun hS=>?_))
 ·exact nR hS hQ
 ·refine zF (zS (zL 2 (aq hS (fun z4 jf hS=>zC 40 (S_ (aU hd rfl) jf) (zL 1 (zK (sR 37 hS (fun hS=>?_) (fun hS=>?_))))))))
  ·exact nR hS hQ
  ·exact nR hS hQ
def f90(a1:Int):Option (Int):=(bif (decide (a1<0)) then (Dm a1 true) else (bif (decide (1114111<a1)) then (Dm a1 true) else ((f126 a1 [(0,31),(127,159),(768,879),(8203,8207),(55296,57343),(65024,65039)]).bind fun z5=>(Dm a1 z5))))
theorem Dn{d:Nat}(hd:2≤d){a1 r:Int}(hS:f90 a1=some r):bW av aX d 90 [(dI a1)] []=some ((dI r),[]):=by
 refine cL amo hd (fun Q hQ=>?_) amb
 refine zS (zL 1 (zK (zS (zL 9 (zK (zS (zL 15 (zK (aC (bz (zS (zL 1 (sB 27 hS (fun hS=>?_) (fun hS=>?_))))))))))))))
 ·exact zL 10 (zK (BZ hd hQ hS _ (by kernel_rfl)))
 ·refine zL 2 (sB 30 hS (fun hS=>?_) (fun hS=>?_))
  ·exact zL 7 (zK (BZ hd hQ hS _ (by kernel_rfl)))
  ·exact zL 4 (aq hS (fun z5 jZ hS=>zG (some 35) 32 false (.call 126 [(tm 33),(tm 34)]) (bX (S_ (aU hd rfl) jZ)) (jL (BZ hd hQ hS))))
/- farwriter/grid.lone$1 -/
def atU(r:Bool)(e:PX)(st:St):Prop:=aV ZM 0 ((dB r),[]) e st
def f127(a1:Int)(a2:List ah)(a3:List PD):Option (Bool):=(bif (decide (a1<(a2.length:Int))) then ((idx a2 a1).bind fun z4=>(bif (decide (z4.eC=0)) then ((idx a2 a1).bind fun z5=>((idx a2 (IntKind.i64.wrap (a1-1))).bind fun z6=>(bif (decide (z5.cz.Flags=z6.cz.Flags)&&(decide (z5.cz.eK=z6.cz.eK)&&(decide (z5.cz.dV=z6.cz.dV)&&true))) then (some true) else (some false)))) else (some false))) else (some false))
theorem Ta{d:Nat}(hd:1≤d){a1:Int}{a2:List ah}{a3:List PD}{r:Bool}(hS:f127 a1 a2 a3=some r):bW av aX d 127 [(dI a1),(.cD ((ij ak).enc a2++a3))] []=some ((dB r),[]):=by
 refine cL atU hd (fun Q hQ=>?_) aef
 refine zS (zL 1 (zK (aC (cC (cy 3 (Ll 7 none (.sQ .lss (tm 4) (tm 6)) hS (fun hS=>?_) (fun hS=>?_)))))))
 ·refine cy 3 (aq hS (fun z4 jf hS=>dr (v:=(.cD (ak.enc z4++(ak.cells (a2.drop ((a1:Int).toNat+1)))))) (aD:= []) (some 11) (some (8,true)) (.jz 87 4 (tm 9) (tm 10)) (fQ ak (kk:= .i64) (xs:=a2) (j:=a1) (by kernel_rfl) (by kernel_rfl) jf rfl (by intro h;cases h)) (cy 2 (Ll 14 (some (8,true)) (ck 13 0) hS (fun hS=>?_) (fun hS=>?_)))))
  ·refine cy 4 (aq hS (fun z5 jZ hS=>dr (v:=(.cD (ak.enc z5++(ak.cells (a2.drop ((a1:Int).toNat+1)))))) (aD:= []) (some 19) (some (16,true)) (.jz 87 4 (tm 17) (tm 18)) (fQ ak (kk:= .i64) (xs:=a2) (j:=a1) (by kernel_rfl) (by kernel_rfl) jZ rfl (by intro h;cases h)) (cy 5 (aq hS (fun z6 nH hS=>dr (v:=(.cD (ak.enc z6++(ak.cells (a2.drop (((IntKind.i64.wrap (a1-1)):Int).toNat+1)))))) (aD:= []) (some 25) (some (16,true)) (.jz 87 4 (tm 22) (tm 24)) (fQ ak (kk:= .i64) (xs:=a2) (j:=(IntKind.i64.wrap (a1-1))) (by kernel_rfl) (by kernel_rfl) nH rfl (by intro h;cases h)) (cy 2 (Ll 28 (some (16,true)) (.Vi .false [(3,.int)] (tm 21) (tm 27)) hS (fun hS=>?_) (fun hS=>?_))))))))
   ·exact cy 2 (fL (nK hS hQ))
   ·exact cy 2 (fL (nK hS hQ))
  ·exact cy 16 (fL (nK hS hQ))
 ·exact cy 23 (fL (nK hS hQ))
/- farwriter/grid.lone -/
def amp(r:Bool)(e:PX)(st:St):Prop:=aV c91 0 ((dB r),[]) e st
def afA(a1:List ah)(a2:Int):St:=⟨(up (up (up u0 5 (.fn 127 [(pt 24)])) 2 (pt 24)) 1 (dI a2)),(up h0 24 ⟨0,some (.box ((dE ak a1):: []))⟩)⟩
def PY(a1:List ah)(a2:Int):Option (Bool):=((idx a1 a2).bind fun z12=>((f90 z12.eC).bind fun dP=>(bif (decide (dP=2)) then ((f127 (IntKind.i64.wrap (a2+1)) a1 []).bind fun dU=>(some (!dU))) else (some false))))
theorem WX(hd:3≤d){a1:List ah}{a2:Int}{r:Bool}(hQ:FQ (amp r) Q)(hS:PY a1 a2=some r): ∀st,au [1,2,5] [(24,.id 24)] [] st=afA a1 a2→ZX d Q ajq [] st:=by
 intro st he
 refine ay he (zS (zL 2 (aq hS (fun z12 gO hS=>zO (v:=(.cD (ak.enc z12++(ak.cells (a1.drop ((a2:Int).toNat+1)))))) (aD:= []) (some 33) (.jz 87 4 (tm 31) (tm 32)) (fQ ak (kk:= .i64) (xs:=a1) (j:=a2) (by kernel_rfl) (by kernel_rfl) gO rfl (by intro h;cases h)) (zL 2 (aq hS (fun dP jn hS=>zC 36 (Dn (aU hd rfl) jn) (sB 37 hS (fun hS=>?_) (fun hS=>?_)))))))))
 ·exact zL 4 (aq hS (fun dU kg hS=>zG (v:=(dB dU)) (aD:= []) (some 42) 38 true (.lU (tm 39) [(tm 41)]) (qC (f:=127) (cs:= [(pt 24)]) (by kernel_rfl) (args:= [(dI (IntKind.i64.wrap (a2+1))),(pt 24)]) (l:= [(dI (IntKind.i64.wrap (a2+1))),(.cD ((ij ak).enc a1++ []))]) (r:=(dB dU)) (by kernel_rfl) (by kernel_rfl) (Ta (aU hd rfl) kg) (by kernel_rfl) (by kernel_rfl) (by kernel_rfl)) (nL hS hQ)))
 ·exact nL hS hQ
def f91(a1:List ah)(a2:Int):Option (Bool):=((idx a1 a2).bind fun dy=>(bif (decide (dy.eC=0)) then (bif (decide (a2=0)) then (some true) else ((idx a1 (IntKind.i64.wrap (a2-1))).bind fun fC=>((f90 fC.eC).bind fun fD=>(bif (!decide (fD=2)) then (some true) else ((f127 a2 a1 []).bind fun gy=>(some (!gy))))))) else (PY a1 a2)))
theorem PZ{d:Nat}(hd:3≤d){a1:List ah}{a2:Int}{r:Bool}(hS:f91 a1 a2=some r):bW av aX d 91 [(dE ak a1),(dI a2)] []=some ((dB r),[]):=by
 refine cL amp hd (fun Q hQ=>?_) amc
 refine zS (zL 2 (zK (zS (zL 2 (zK (aC (zS (zL 2 (aq hS (fun dy jm hS=>zO (v:=(.cD (ak.enc dy++(ak.cells (a1.drop ((a2:Int).toNat+1)))))) (aD:= []) (some 9) (.jz 87 4 (tm 7) (tm 8)) (fQ ak (kk:= .i64) (xs:=a1) (j:=a2) (by kernel_rfl) (by kernel_rfl) jm rfl (by intro h;cases h)) (zL 2 (sB 12 hS (fun hS=>?_) (fun hS=>?_)))))))))))))
 ·refine zK (zT (zS (zL 1 (sB 14 hS (fun hS=>?_) (fun hS=>?_)))))
  ·exact nL hS hQ
  ·refine zL 4 (aq hS (fun fC ke hS=>zG (v:=(.cD (ak.enc fC++(ak.cells (a1.drop (((IntKind.i64.wrap (a2-1)):Int).toNat+1)))))) (aD:= []) (some 19) 15 false (.jz 87 4 (tm 16) (tm 18)) (fQ ak (kk:= .i64) (xs:=a1) (j:=(IntKind.i64.wrap (a2-1))) (by kernel_rfl) (by kernel_rfl) ke rfl (by intro h;cases h)) (zL 2 (aq hS (fun fD lJ hS=>zG (some 22) 15 false (c1 90 21) (bX (Dn (aU hd rfl) lJ)) (sB 23 hS (fun hS=>?_) (fun hS=>?_)))))))
   ·exact nL hS hQ
   ·exact zL 4 (aq hS (fun gy nM hS=>zG (v:=(dB gy)) (aD:= []) (some 28) 25 false (.lU (tm 26) [(tm 27)]) (qC (f:=127) (cs:= [(.r (.ptr 24 1 0))]) (by kernel_rfl) (args:= [(dI a2),(.r (.ptr 24 1 0))]) (l:= [(dI a2),(.cD ((ij ak).enc a1++ []))]) (r:=(dB gy)) (by kernel_rfl) (by kernel_rfl) (Ta (aU hd rfl) nM) (by kernel_rfl) (by kernel_rfl) (by kernel_rfl)) (nL hS hQ)))
 ·exact jL (WX hd hQ hS)
/- farwriter/grid.Check -/
def Jz(ace:Int):St:=⟨(up u0 2 (dI ace)),h0⟩
theorem amq{ace:Int}:cP (Jz ace) 0 SD.res=some ((dI ace),[]):=by
 kernel_rfl
def WY(r:Int)(e:PX)(st:St):Prop:=aV SD 0 ((dI r),[]) e st
def afB(a1:bQ)(x:Int):St:=⟨(up (up (up u0 27 (dI x)) 26 (dI a1.bV)) 1 (pt 16)),(C5 a1)⟩
def ux(a1:bQ)(x:Int)(st:St):Prop:=au [1,26,27] [(16,.id 16)] [] st=afB a1 x
def Dp(a1:bQ):St:=⟨u0,h0⟩
def zq(a1:bQ)(z:Unit⊕Int)(e:PX)(st:St):Prop:=(match z with | .inl z=>e= .exit 0∧st=Dp a1 | .inr z=>e= .ret∧dY SD.fin st=Jz z)
def P1(a1:bQ)(x:(List ah)×Int×(List ah)×Int×Int):St:=⟨(up (up (up (up (up (up (up u0 35 (dI x.2.2.2.2)) 34 (dI x.2.2.2.1)) 33 (dE ak x.2.2.1)) 27 (dI x.2.1)) 26 (dI a1.bV)) 5 (dE ak x.1)) 1 (pt 16)),(C5 a1)⟩
def nj(a1:bQ)(x:(List ah)×Int×(List ah)×Int×Int)(st:St):Prop:=au [1,5,26,27,33,34,35] [(16,.id 16)] [] st=P1 a1 x
def wH(a1:bQ)(aB5:Int):St:=⟨(up (up (up u0 27 (dI aB5)) 26 (dI a1.bV)) 1 (pt 16)),(C5 a1)⟩
def ql(a1:bQ)(z:Int⊕Int)(e:PX)(st:St):Prop:=(match z with | .inl z=>e= .exit 2∧st=wH a1 z | .inr z=>e= .ret∧dY SD.fin st=Jz z)
def GU(a1:bQ)(Dq:List ah)(JA:Int)(AV:List ah)(JB wI:Int):St:=⟨(up (up (up (up (up (up (up u0 35 (dI wI)) 34 (dI JB)) 33 (dE ak AV)) 27 (dI JA)) 26 (dI a1.bV)) 5 (dE ak Dq)) 1 (pt 16)),(C5 a1)⟩
def oH(a1:bQ)(Dq:List ah)(JA:Int)(AV:List ah)(JB wI:Int):Option (((List ah)×Int×(List ah)×Int×Int)⊕(Int⊕Int)):=((idx AV wI).bind fun z67=>((f59 z67.cz).bind fun pN=>(bif (!decide (pN=0)) then (some (.inr (.inr 4))) else (bif (!decide (z67.eC=0)) then ((f90 z67.eC).bind fun GV=>(bif (decide (GV=0)) then (some (.inr (.inr 4))) else ((f91 Dq wI).bind fun z70=>(bif z70 then (some (.inr (.inr 4))) else (some (.inl (Dq,JA,AV,JB,(IntKind.i64.wrap (wI+1))))))))) else ((f91 Dq wI).bind fun WZ=>(bif WZ then (some (.inr (.inr 4))) else (some (.inl (Dq,JA,AV,JB,(IntKind.i64.wrap (wI+1)))))))))))
theorem E9(hd:4≤d){a1:bQ}{r:((List ah)×Int×(List ah)×Int×Int)⊕(Int⊕Int)}(hQ:FQ (bG (nj a1) (ql a1) r) Q){Dq:List ah}{JA:Int}{AV:List ah}{JB wI:Int}(hS:oH a1 Dq JA AV JB wI=some r): ∀st,au [1,5,26,27,33,34,35] [(16,.id 16)] [] st=GU a1 Dq JA AV JB wI→ZX d Q ajr [] st:=by
 intro st he
 refine ay he (aC (bz (zS (zL 1 (aq hS (fun z67 Tb hS=>zO (v:=(.cD (ak.enc z67++(ak.cells (AV.drop ((wI:Int).toNat+1)))))) (aD:= []) (some 38) (.jz 87 4 (tm 33) (tm 35)) (fQ ak (kk:= .i64) (xs:=AV) (j:=wI) (by kernel_rfl) (by kernel_rfl) Tb rfl (by intro h;cases h)) (zL 4 (zK (zS (zL 2 (aq hS (fun pN NC hS=>zC 42 (Hq (aU hd rfl) NC) (sB 43 hS (fun hS=>?_) (fun hS=>?_))))))))))))))
 ·exact zL 16 (zK (zT (zS (zL 1 (zK (cM (cr (bP (bk (mX hS hQ))))))))))
 ·refine zL 3 (sB 47 hS (fun hS=>?_) (fun hS=>?_))
  ·refine zL 3 (aq hS (fun GV Tc hS=>zG (some 51) 48 true (c1 90 50) (bX (Dn (aU hd rfl) Tc)) (sB 52 hS (fun hS=>?_) (fun hS=>?_))))
   ·exact zL 7 (zK (zT (zS (zL 1 (zK (cM (cr (bP (bk (mX hS hQ))))))))))
   ·refine zL 5 (aq hS (fun z70 amr hS=>zG (some 58) 55 false (.call 91 [(tm 56),(tm 57)]) (bX (PZ (aU hd rfl) amr)) (zL 1 (zK (sR 59 hS (fun hS=>?_) (fun hS=>?_))))))
    ·exact zT (zS (zL 1 (zK (cM (cr (bP (bk (mX hS hQ))))))))
    ·exact lR hS hQ
  ·refine zL 10 (aq hS (fun WZ ams hS=>zG (some 58) 55 false (.call 91 [(tm 56),(tm 57)]) (bX (PZ (aU hd rfl) ams)) (zL 1 (zK (sR 59 hS (fun hS=>?_) (fun hS=>?_))))))
   ·exact zT (zS (zL 1 (zK (cM (cr (bP (bk (mX hS hQ))))))))
   ·exact lR hS hQ
def GW(a1:bQ)(ND:List ah)(F5:Int)(NF:List ah)(NG NH:Int)(NI:Bool):St:=⟨(up (up (up (up (up (up (up (up u0 36 (dB NI)) 35 (dI NH)) 34 (dI NG)) 33 (dE ak NF)) 27 (dI F5)) 26 (dI a1.bV)) 5 (dE ak ND)) 1 (pt 16)),(C5 a1)⟩
def jV(a1:bQ)(ND:List ah)(F5:Int)(NF:List ah)(NG NH:Int)(NI:Bool):Option (((List ah)×Int×(List ah)×Int×Int)⊕(Int⊕Int)):=(bif NI then (oH a1 ND F5 NF NG NH) else (some (.inr (.inl F5))))
theorem uy(hd:4≤d){a1:bQ}{r:((List ah)×Int×(List ah)×Int×Int)⊕(Int⊕Int)}(hQ:FQ (bG (nj a1) (ql a1) r) Q){ND:List ah}{F5:Int}{NF:List ah}{NG NH:Int}{NI:Bool}(hS:jV a1 ND F5 NF NG NH NI=some r): ∀st,au [1,5,26,27,33,34,35,36] [(16,.id 16)] [] st=GW a1 ND F5 NF NG NH NI→ZX d Q ajs [] st:=by
 intro st he
 refine ay he (aC (sR 36 hS (fun hS=>?_) (fun hS=>?_)))
 ·exact jR (E9 hd hQ hS)
 ·exact zF (ay (J:=wH a1 F5) (by kernel_rfl) (dh (cY (bk (jA hS hQ)))))
def l_(a1:bQ)(x:(List ah)×Int×(List ah)×Int×Int):Option (((List ah)×Int×(List ah)×Int×Int)⊕(Int⊕Int)):=(bif (decide (x.2.2.2.2<x.2.2.2.1)) then (jV a1 x.1 x.2.1 x.2.2.1 x.2.2.2.1 x.2.2.2.2 true) else (jV a1 x.1 x.2.1 x.2.2.1 x.2.2.2.1 x.2.2.2.2 false))
theorem LD(hd:4≤d){a1:bQ}{r:((List ah)×Int×(List ah)×Int×Int)⊕(Int⊕Int)}(hQ:FQ (bG (nj a1) (ql a1) r) Q){x:(List ah)×Int×(List ah)×Int×Int}(hS:l_ a1 x=some r)(he:nj a1 x st):ZX d Q ajt [] st:=by
 refine ay he (zS (sB 36 hS (fun hS=>?_) (fun hS=>?_)))
 ·exact zK (uy hd hQ hS _ (by kernel_rfl))
 ·exact jL (uy hd hQ hS)
def P2(a1:bQ)(F6:Int):St:=⟨(up (up (up u0 27 (dI F6)) 26 (dI a1.bV)) 1 (pt 16)),(C5 a1)⟩
def vA(a1:bQ)(F6:Int):Option (Int⊕(Unit⊕Int)):=((f89 a1 F6).bind fun z51=>((b9 (l_ a1) (z51,F6,z51,(z51.length:Int),0)).bind fun z72=>(Sum.elim (fun Td=>(some (.inl (IntKind.i64.wrap (Td+1))))) (fun W4=>(some (.inr (.inr W4)))) z72)))
theorem LF(hd:4≤d){a1:bQ}{r:Int⊕(Unit⊕Int)}(hQ:FQ (bG (ux a1) (zq a1) r) Q){F6:Int}(hS:vA a1 F6=some r): ∀st,au [1,26,27] [(16,.id 16)] [] st=P2 a1 F6→ZX d Q aju [] st:=by
 intro st he
 refine ay he (aC (bz (zS (zL 2 (zK (zS (zL 2 (aq hS (fun z51 S4 hS=>zO (some 32) (.fO 89 [(tm 30),(tm 31)]) (vk [] [] (ab_ (aU hd rfl) S4) qb) (zL 1 (zK (zS (zL 3 (zK (bz (aq hS (fun z72 acf hS=>dN (nj a1) (ql a1) (fun x st r Q h0 hS hQ=>LD hd hQ hS h0) (x:=(z51,F6,z51,(z51.length:Int),0)) (z:=z72) (by show au _ _ _ _=_;kernel_rfl) acf ?_)))))))))))))))))
 rcases z72 with Td | W4
 ·replace hS:=(show _=_ from hS)
  simp only [ua] at hS
  intro e bl _ hX
  obtain ⟨rfl,rfl⟩:_∧_:=hX
  exact lK hS hQ
 ·simp only [ud] at hS
  intro e bl _ hX
  obtain ⟨rfl,hX⟩:_∧_:=hX
  exact cr (cr (bP (bk (eA hS hQ (O2 (by intro h;cases h) (by show _=_∧_=_;exact ⟨rfl,hX⟩))))))
def P3(a1:bQ)(NJ:Int)(NK:Bool):St:=⟨(up (up (up (up u0 28 (dB NK)) 27 (dI NJ)) 26 (dI a1.bV)) 1 (pt 16)),(C5 a1)⟩
def ot(a1:bQ)(NJ:Int)(NK:Bool):Option (Int⊕(Unit⊕Int)):=(bif NK then (vA a1 NJ) else (some (.inr (.inl ()))))
theorem AW(hd:4≤d){a1:bQ}{r:Int⊕(Unit⊕Int)}(hQ:FQ (bG (ux a1) (zq a1) r) Q){NJ:Int}{NK:Bool}(hS:ot a1 NJ NK=some r): ∀st,au [1,26,27,28] [(16,.id 16)] [] st=P3 a1 NJ NK→ZX d Q ajv [] st:=by
 intro st he
 refine ay he (aC (sR 28 hS (fun hS=>?_) (fun hS=>?_)))
 ·exact jR (LF hd hQ hS)
 ·exact zF (ay (J:=Dp a1) (by kernel_rfl) (dh (cY (bk (jA hS hQ)))))
def vB(a1:bQ)(x:Int):Option (Int⊕(Unit⊕Int)):=(bif (decide (x<a1.bV)) then (ot a1 x true) else (ot a1 x false))
theorem W5(hd:4≤d){a1:bQ}{r:Int⊕(Unit⊕Int)}(hQ:FQ (bG (ux a1) (zq a1) r) Q){x:Int}(hS:vB a1 x=some r)(he:ux a1 x st):ZX d Q ajw [] st:=by
 refine ay he (zS (sB 28 hS (fun hS=>?_) (fun hS=>?_)))
 ·exact zK (AW hd hQ hS _ (by kernel_rfl))
 ·exact jL (AW hd hQ hS)
def afC(a1:bQ):St:=⟨(up u0 1 (pt 16)),(C5 a1)⟩
def P4(a1:bQ):Option (Int):=((b9 (vB a1) 0).bind fun z75=>(Sum.elim (fun z76=>(some 0)) (fun Te=>(some Te)) z75))
theorem W6(hd:4≤d){a1:bQ}{r:Int}(hQ:FQ (WY r) Q)(hS:P4 a1=some r): ∀st,au [1] [(16,.id 16)] [] st=afC a1→ZX d Q ajx [] st:=by
 intro st he
 refine ay he (aC (zS (zL 3 (zK (bz (aq hS (fun z75 amt hS=>dN (ux a1) (zq a1) (fun x st r Q h0 hS hQ=>W5 hd hQ hS h0) (x:=0) (z:=z75) (by show au _ _ _ _=_;kernel_rfl) amt ?_)))))))
 rcases z75 with z76 | Te
 ·replace hS:=(show _=_ from hS)
  simp only [ua] at hS
  intro e bl _ hX
  obtain ⟨rfl,rfl⟩:_∧_:=hX
  exact nK hS hQ
 ·simp only [ud] at hS
  intro e bl _ hX
  obtain ⟨rfl,hX⟩:_∧_:=hX
  exact cr (bP (bk (eA hS hQ (jv (by kernel_rfl) ((congrArg (fun s=>cP s 0 SD.res) hX).trans amq)))))
def afD(a1:bQ):St:=⟨(up u0 1 (pt 16)),(C5 a1)⟩
def P5(a1:bQ):Option (Int):=(bif (!decide ((a1.Cells.length:Int)=(IntKind.i64.wrap (a1.bR*a1.bV)))) then (some 4) else (P4 a1))
theorem W7(hd:4≤d){a1:bQ}{r:Int}(hQ:FQ (WY r) Q)(hS:P5 a1=some r): ∀st,au [1] [(16,.id 16)] [] st=afD a1→ZX d Q ajy [] st:=by
 intro st he
 refine ay he (aC (zS (zL 8 (sB 24 hS (fun hS=>?_) (fun hS=>?_)))))
 ·exact nL hS hQ
 ·exact jL (W6 hd hQ hS)
def f57(a1:bQ):Option (Int):=((f88 a1.bR a1.bV).bind fun Tf=>(bif (!decide (Tf=0)) then (some Tf) else (P5 a1)))
theorem P6{d:Nat}(hd:4≤d){a1:bQ}{r:Int}(hS:f57 a1=some r):bW av aX d 57 [(ZA a1)] []=some ((dI r),[]):=by
 refine cL WY hd (fun Q hQ=>?_) alU
 refine zS (zL 2 (zK (aC (zS (zL 4 (aq hS (fun Tf amu hS=>zC 12 (ab9 (aU hd rfl) amu) (zL 1 (zK (zS (zL 1 (sB 14 hS (fun hS=>?_) (fun hS=>?_)))))))))))))
 ·exact nL hS hQ
 ·exact jL (W7 hd hQ hS)
/- farwriter/screen.within -/
def azl(r:Bool)(e:PX)(st:St):Prop:=aV c58 0 ((dB r),[]) e st
def f58(a1 a2 a3:Int):Option (Bool):=(bif (decide (a2≤a1)) then (bif (decide (a1≤a3)) then (some true) else (some false)) else (some false))
theorem qm{d:Nat}(hd:1≤d){a1 a2 a3:Int}{r:Bool}(hS:f58 a1 a2 a3=some r):bW av aX d 58 [(dI a1),(dI a2),(dI a3)] []=some ((dB r),[]):=by
 refine cL azl hd (fun Q hQ=>?_) alV
 refine zS (zL 1 (zK (zS (zL 2 (sB 9 hS (fun hS=>?_) (fun hS=>?_))))))
 ·refine zL 3 (sB 13 hS (fun hS=>?_) (fun hS=>?_))
  ·exact nL hS hQ
  ·exact nL hS hQ
 ·exact nL hS hQ
/- farwriter/page.Known -/
def azm(r:Bool)(e:PX)(st:St):Prop:=aV c60 0 ((dB r),[]) e st
def f60(a1:Int):Option (Bool):=(bif (decide (1≤a1)) then (bif (decide (a1≤4)) then (some true) else (some false)) else (some false))
theorem Dr{d:Nat}(hd:1≤d){a1:Int}{r:Bool}(hS:f60 a1=some r):bW av aX d 60 [(dI a1)] []=some ((dB r),[]):=by
 refine cL azm hd (fun Q hQ=>?_) alX
 refine zS (zL 1 (zK (zS (zL 1 (sB 4 hS (fun hS=>?_) (fun hS=>?_))))))
 ·refine zL 2 (sB 7 hS (fun hS=>?_) (fun hS=>?_))
  ·exact nL hS hQ
  ·exact nL hS hQ
 ·exact nL hS hQ
/- farwriter/screen.past -/
def Tg(jJ:Bool):St:=⟨(up u0 2 (dB jJ)),h0⟩
theorem amv{jJ:Bool}:cP (Tg jJ) 0 Wj.res=some ((dB jJ),[]):=by
 kernel_rfl
def azn(r:Bool)(e:PX)(st:St):Prop:=aV Wj 0 ((dB r),[]) e st
def afE(a1:List bY)(x:Int):St:=⟨(up (up (up (up u0 7 (dI x)) 6 (dI (a1.length:Int))) 5 (dE b_ a1)) 0 (dE b_ a1)),h0⟩
def uz(a1:List bY)(x:Int)(st:St):Prop:=au [0,5,6,7] [] [] st=afE a1 x
def Ds(a1:List bY):St:=⟨(up u0 0 (dE b_ a1)),h0⟩
def zu(a1:List bY)(z:Unit⊕Bool)(e:PX)(st:St):Prop:=(match z with | .inl z=>e= .exit 0∧st=Ds a1 | .inr z=>e= .ret∧dY Wj.fin st=Tg z)
def P7(a1:List bY)(mN:Int):St:=⟨(up (up (up (up u0 7 (dI mN)) 6 (dI (a1.length:Int))) 5 (dE b_ a1)) 0 (dE b_ a1)),h0⟩
def vC(a1:List bY)(mN:Int):Option (Int⊕(Unit⊕Bool)):=((idx a1 mN).bind fun z7=>((f57 (bQ.mk (z7.Cells.length:Int) 1 z7.Cells)).bind fun z8=>(bif (!decide (z8=0)) then (some (.inr (.inr false))) else (some (.inl (IntKind.i64.wrap (mN+1)))))))
theorem LG(hd:5≤d){a1:List bY}{r:Int⊕(Unit⊕Bool)}(hQ:FQ (bG (uz a1) (zu a1) r) Q){mN:Int}(hS:vC a1 mN=some r): ∀st,au [0,5,6,7] [] [] st=P7 a1 mN→ZX d Q ajz [] st:=by
 intro st he
 refine ay he (aC (bz (zS (aq hS (fun z7 l8 hS=>zO (v:=(.cD (b_.enc z7++(b_.cells (a1.drop ((mN:Int).toNat+1)))))) (aD:= []) (some 9) (.jz 111 1 (tm 5) (tm 7)) (fQ b_ (kk:= .i64) (xs:=a1) (j:=mN) (by kernel_rfl) (by kernel_rfl) l8 rfl (by intro h;cases h)) (zL 3 (zK (zS (zL 6 (aq hS (fun z8 je hS=>zC 17 (P6 (aU hd rfl) je) (sB 18 hS (fun hS=>?_) (fun hS=>?_)))))))))))))
 ·exact zK (zT (zS (zL 1 (zK (cM (cr (bP (bk (mX hS hQ)))))))))
 ·exact lL hS hQ
def P8(a1:List bY)(gK:Int)(jB:Bool):St:=⟨(up (up (up (up (up u0 8 (dB jB)) 7 (dI gK)) 6 (dI (a1.length:Int))) 5 (dE b_ a1)) 0 (dE b_ a1)),h0⟩
def ou(a1:List bY)(gK:Int)(jB:Bool):Option (Int⊕(Unit⊕Bool)):=(bif jB then (vC a1 gK) else (some (.inr (.inl ()))))
theorem AX(hd:5≤d){a1:List bY}{r:Int⊕(Unit⊕Bool)}(hQ:FQ (bG (uz a1) (zu a1) r) Q){gK:Int}{jB:Bool}(hS:ou a1 gK jB=some r): ∀st,au [0,5,6,7,8] [] [] st=P8 a1 gK jB→ZX d Q ajA [] st:=by
 intro st he
 refine ay he (aC (sR 8 hS (fun hS=>?_) (fun hS=>?_)))
 ·exact jR (LG hd hQ hS)
 ·exact zF (ay (J:=Ds a1) (by kernel_rfl) (dh (cY (bk (jA hS hQ)))))
def zv(a1:List bY)(x:Int):Option (Int⊕(Unit⊕Bool)):=(bif (decide (x<(a1.length:Int))) then (ou a1 x true) else (ou a1 x false))
theorem W8(hd:5≤d){a1:List bY}{r:Int⊕(Unit⊕Bool)}(hQ:FQ (bG (uz a1) (zu a1) r) Q){x:Int}(hS:zv a1 x=some r)(he:uz a1 x st):ZX d Q ajB [] st:=by
 refine ay he (zS (sB 8 hS (fun hS=>?_) (fun hS=>?_)))
 ·exact zK (AX hd hQ hS _ (by kernel_rfl))
 ·exact jL (AX hd hQ hS)
def f61(a1:List bY):Option (Bool):=((b9 (zv a1) 0).bind fun z9=>(Sum.elim (fun dG=>(bif (decide ((a1.length:Int)≤40)) then (some true) else (some false))) (fun cS=>(some cS)) z9))
theorem atV{d:Nat}(hd:5≤d){a1:List bY}{r:Bool}(hS:f61 a1=some r):bW av aX d 61 [(dE b_ a1)] []=some ((dB r),[]):=by
 refine cL azn hd (fun Q hQ=>?_) alY
 refine zS (zL 1 (zK (aC (zS (zL 3 (zK (bz (aq hS (fun z9 jI hS=>dN (uz a1) (zu a1) (fun x st r Q h0 hS hQ=>W8 hd hQ hS h0) (x:=0) (z:=z9) (by show au _ _ _ _=_;kernel_rfl) jI ?_)))))))))
 rcases z9 with dG | cS
 ·replace hS:=(show _=_ from hS)
  simp only [ua] at hS
  intro e bl _ hX
  obtain ⟨rfl,rfl⟩:_∧_:=hX
  refine j9 (cj (zS (zL 2 (sB 22 hS (fun hS=>?_) (fun hS=>?_)))))
  ·exact nL hS hQ
  ·exact nL hS hQ
 ·simp only [ud] at hS
  intro e bl _ hX
  obtain ⟨rfl,hX⟩:_∧_:=hX
  exact cr (bP (bk (eA hS hQ (jv (by kernel_rfl) ((congrArg (fun s=>cP s 0 Wj.res) hX).trans amv)))))
end
end Go.Proofs.YtimbfadnabfabaaGreatDoor.Pm
