/- Typed functions, and that the codes are these. Printed by dec.py. -/
import Derived.Test.YtimbfadnabfabaaGreatDoorDMoG
namespace Go.Proofs.YtimbfadnabfabaaGreatDoor.Pm
noncomputable section
set_option maxRecDepth 1000000
set_option maxHeartbeats 20000000
set_option linter.unusedVariables false
set_option linter.unusedSimpArgs false
variable {d : Nat} {Q : PQ} {st : St}
/- farwriter/utf.Feed -/
def NU(GX:S8)(Cc:List Int)(vD:Int):St:=⟨(up (up (up u0 6 (dI vD)) 5 (.r (.aJ 593 0 0 Cc.length))) 4 (.d (.str GX))),(up h0 593 ⟨0,some (.own 3 1 (eI.cells Cc))⟩)⟩
theorem Fa{GX:S8}{Cc:List Int}{vD:Int}:cP (NU GX Cc vD) 0 Jf.res=some ((.bE [(.d (.str GX)),(.r (.own 0 3 1 Cc.length (eI.cells Cc))),(dI vD)]),[]):=by
 exact iN (ids:= []) (ids':= [593]) (l:= [(.d (.str GX)),(.r (.aJ 593 0 0 Cc.length)),(dI vD)]) (by kernel_rfl) (by kernel_rfl) (BL (aN rfl (aN (gX eI (e:=3) (k:=1) (xs:=Cc) (by kernel_rfl) rfl rfl rfl rfl) (aN rfl mW))))
def acr(r:S8×(List Int)×Int)(e:PX)(st:St):Prop:=aV Jf 0 ((.bE [(.d (.str r.1)),(.r (.own 0 3 1 r.2.1.length (eI.cells r.2.1))),(dI r.2.2)]),[]) e st
def Xz(a1 a2:S8)(x:S8×(List Int)):St:=⟨(up (up u0 8 (.r (.aJ 72 0 0 x.2.length))) 1 (.d (.str x.1))),(up h0 72 ⟨0,some (.own 3 1 (eI.cells x.2))⟩)⟩
def oy(a1 a2:S8)(x:S8×(List Int))(st:St):Prop:=au [1,8] [(72,.id 72)] [] st=Xz a1 a2 x
def A8(a1 a2:S8)(awH:List Int):St:=⟨(up u0 8 (.r (.aJ 72 0 0 awH.length))),(up h0 72 ⟨0,some (.own 3 1 (eI.cells awH))⟩)⟩
def rU(a1 a2:S8)(z:((List Int))⊕(S8×(List Int)×Int))(e:PX)(st:St):Prop:=(match z with | .inl z=>e= .exit 0∧st=A8 a1 a2 z | .inr z=>e= .ret∧dY Jf.fin st=NU z.1 z.2.1 z.2.2)
def LV(a1 a2 DU:S8)(DV:List Int)(xI:Int):St:=⟨(up (up (up u0 9 (dI xI)) 8 (.r (.aJ 72 0 0 DV.length))) 1 (.d (.str DU))),(up h0 72 ⟨0,some (.own 3 1 (eI.cells DV))⟩)⟩
def s8(a1 a2 DU:S8)(DV:List Int)(xI:Int):Option ((S8×(List Int))⊕(((List Int))⊕(S8×(List Int)×Int))):=((eN 8 DV ([65533]:List Int)).bind fun pN=>((pW DU (if 1>xI then 1 else xI) (DU.length:Int)).bind fun GV=>(some (.inl (GV,pN)))))
theorem xJ(hd:4≤d){a1 a2:S8}{r:(S8×(List Int))⊕(((List Int))⊕(S8×(List Int)×Int))}(hQ:FQ (bG (oy a1 a2) (rU a1 a2) r) Q){DU:S8}{DV:List Int}{xI:Int}(hS:s8 a1 a2 DU DV xI=some r): ∀st,au [1,8,9] [(72,.id 72)] [] st=LV a1 a2 DU DV xI→ZX d Q ZQ [.blk 2,.seq ZT,.blk 1] st:=by
 intro st he
 exact ay he (a_ (zL 2 (aq hS (fun pN NC hS=>zO (v:=(.r (.aJ 72 1 0 pN.length))) (aD:= [(72,⟨1,some (.own 3 1 (eI.cells pN))⟩)]) (some 41) (.app 3 1 8 (tm 39) (tm 40)) (eL eI (b:=72) (g:=0) (n:=DV.length) (xs:=DV) (ys:= [65533]) ((congrArg (fJ _) (by kernel_rfl:bU _ (.tmp 40)=(.r (.aJ 328 1 0 (([65533]:List Int).length))))).trans (cX eI (e:=3) (k:=1) (xs:= [65533]) (by kernel_rfl) rfl rfl)) rfl (by kernel_rfl) rfl (by kernel_rfl) rfl NC) (zL 1 (zE (qX (cj (a_ (zL 3 (aq hS (fun GV Tc hS=>zO (v:=(.d (.str GV))) (aD:= []) (some 68) (.uX (tm 65) (.some (tm 67)) .none) (E2 (s:=DU) (a:=(if 1>xI then 1 else xI)) (c:=(DU.length:Int)) (by kernel_rfl) (lY _ (kk:= .i64) (j:=(if 1>xI then 1 else xI)) (by kernel_rfl)) (BJ _) Tc) (lL hS hQ)))))))))))))
def LW(a1 a2 rV:S8)(wJ:List Int):St:=⟨(up (up u0 8 (.r (.aJ 72 0 0 wJ.length))) 1 (.d (.str rV))),(up h0 72 ⟨0,some (.own 3 1 (eI.cells wJ))⟩)⟩
def oY(a1 a2 rV:S8)(wJ:List Int):Option ((S8×(List Int))⊕(((List Int))⊕(S8×(List Int)×Int))):=((f53 rV).bind fun z64=>(bif z64.2 then ((iK rV).bind fun xK=>((eN 8 wJ ([(IntKind.i64.wrap (xK.1))]:List Int)).bind fun z66=>((pW rV (if 1>z64.1 then 1 else z64.1) (rV.length:Int)).bind fun z67=>(some (.inl (z67,z66)))))) else (bif (decide (0<z64.1)) then (bif (decide (z64.1=(rV.length:Int))) then (some (.inr (.inr (rV,wJ,0)))) else (s8 a1 a2 rV wJ z64.1)) else (s8 a1 a2 rV wJ z64.1))))
theorem JQ(hd:4≤d){a1 a2:S8}{r:(S8×(List Int))⊕(((List Int))⊕(S8×(List Int)×Int))}(hQ:FQ (bG (oy a1 a2) (rU a1 a2) r) Q){rV:S8}{wJ:List Int}(hS:oY a1 a2 rV wJ=some r): ∀st,au [1,8] [(72,.id 72)] [] st=LW a1 a2 rV wJ→ZX d Q ZU [.blk 1] st:=by
 intro st he
 refine ay he (zS (zL 1 (aq hS (fun z64 acs hS=>zC 36 (ab4 (aU hd rfl) acs) (zL 5 (zK (aC (bz (zS (zL 2 (zK (sR 42 hS (fun hS=>?_) (fun hS=>?_)))))))))))))
 ·exact zT (zS (zL 1 (aq hS (fun xK awI hS=>zC 46 (DT (aU hd rfl) awI) (zL 5 (zK (a_ (zL 4 (aq hS (fun z66 am0 hS=>zO (v:=(.r (.aJ 72 1 0 z66.length))) (aD:= [(72,⟨1,some (.own 3 1 (eI.cells z66))⟩)]) (some 53) (.app 3 1 8 (tm 49) (tm 52)) (eL eI (b:=72) (g:=0) (n:=wJ.length) (xs:=wJ) (ys:= [(IntKind.i64.wrap (xK.1))]) ((congrArg (fJ _) (by kernel_rfl:bU _ (.tmp 52)=(.r (.aJ 424 1 0 (([(IntKind.i64.wrap (xK.1))]:List Int).length))))).trans (cX eI (e:=3) (k:=1) (xs:= [(IntKind.i64.wrap (xK.1))]) (by kernel_rfl) rfl rfl)) rfl (by kernel_rfl) rfl (by kernel_rfl) rfl am0) (zL 1 (zE (qX (cj (a_ (zL 3 (aq hS (fun z67 Tb hS=>zO (v:=(.d (.str z67))) (aD:= []) (some 68) (.uX (tm 65) (.some (tm 67)) .none) (E2 (s:=rV) (a:=(if 1>z64.1 then 1 else z64.1)) (c:=(rV.length:Int)) (by kernel_rfl) (lY _ (kk:= .i64) (j:=(if 1>z64.1 then 1 else z64.1)) (by kernel_rfl)) (BJ _) Tb) (lL hS hQ)))))))))))))))))))
 ·refine zF (zS (zL 1 (sB 56 hS (fun hS=>?_) (fun hS=>?_))))
  ·refine zL 4 (sB 61 hS (fun hS=>?_) (fun hS=>?_))
   ·exact zL 2 (zK (zT (zS (zL 5 (zK (cM (cr (bP (cr (bk (mX hS hQ)))))))))))
   ·exact zL 2 (zK (zF (xJ hd hQ hS _ (by kernel_rfl))))
  ·exact jL (xJ hd hQ hS)
def LX(a1 a2 s9:S8)(A9:List Int):St:=⟨(up (up u0 8 (.r (.aJ 72 0 0 A9.length))) 1 (.d (.str s9))),(up h0 72 ⟨0,some (.own 3 1 (eI.cells A9))⟩)⟩
def mF(a1 a2 s9:S8)(A9:List Int):Option ((S8×(List Int))⊕(((List Int))⊕(S8×(List Int)×Int))):=((idx s9 0).bind fun WZ=>(bif (decide ((WZ.toNat:Int)<128)) then ((idx s9 0).bind fun z72=>((eN 8 A9 ([(z72.toNat:Int)]:List Int)).bind fun Td=>((pW s9 1 (s9.length:Int)).bind fun W4=>(some (.inl (W4,Td)))))) else (oY a1 a2 s9 A9)))
theorem JR(hd:4≤d){a1 a2:S8}{r:(S8×(List Int))⊕(((List Int))⊕(S8×(List Int)×Int))}(hQ:FQ (bG (oy a1 a2) (rU a1 a2) r) Q){s9:S8}{A9:List Int}(hS:mF a1 a2 s9 A9=some r): ∀st,au [1,8] [(72,.id 72)] [] st=LX a1 a2 s9 A9→ZX d Q ZV [] st:=by
 intro st he
 refine ay he (bz (aC (zS (zL 1 (aq hS (fun WZ ams hS=>zO (v:=(.d (.int .u8 (WZ.toNat:Int)))) (aD:= []) (some 24) (.iw (tm 23) (ki 0)) (fq (kk:= .i64) (s:=s9) (j:=0) (by kernel_rfl) (by kernel_rfl) ams) (sB 25 hS (fun hS=>?_) (fun hS=>?_))))))))
 ·exact zK (zT (aC (cC (cy 2 (aq hS (fun z72 acf hS=>dr (v:=(.d (.int .u8 (z72.toNat:Int)))) (aD:= []) (some 28) none (.iw (tm 27) (ki 0)) (fq (kk:= .i64) (s:=s9) (j:=0) (by kernel_rfl) (by kernel_rfl) acf) (dr (v:=(dI (z72.toNat:Int))) (aD:= []) (some 29) none (.ku .i64 (tm 28)) (gC (kk:= .u8) (a:=(z72.toNat:Int)) (by kernel_rfl) (qf _)) (cy 1 (aq hS (fun Td aCc hS=>dr (v:=(.r (.aJ 72 1 0 Td.length))) (aD:= [(72,⟨1,some (.own 3 1 (eI.cells Td))⟩)]) (some 31) none (.app 3 1 8 (tm 26) (tm 30)) (eL eI (b:=72) (g:=0) (n:=A9.length) (xs:=A9) (ys:= [(z72.toNat:Int)]) ((congrArg (fJ _) (by kernel_rfl:bU _ (.tmp 30)=(.r (.aJ 248 1 0 (([(z72.toNat:Int)]:List Int).length))))).trans (cX eI (e:=3) (k:=1) (xs:= [(z72.toNat:Int)]) (by kernel_rfl) rfl rfl)) rfl (by kernel_rfl) rfl (by kernel_rfl) rfl aCc) (cy 1 (aq hS (fun W4 aCd hS=>dr (v:=(.d (.str W4))) (aD:= []) (some 33) none (.uX (tm 32) (.some (ki 1)) .none) (E2 (s:=s9) (a:=1) (c:=(s9.length:Int)) (by kernel_rfl) (lY _ (kk:= .i64) (j:=1) (by kernel_rfl)) (BJ _) aCd) (cy 2 (fL (lK hS hQ))))))))))))))))
 ·exact jL (JQ hd hQ hS)
def nk(a1 a2:S8)(x:S8×(List Int)):Option ((S8×(List Int))⊕(((List Int))⊕(S8×(List Int)×Int))):=(bif (!decide (x.1=([]:S8))) then (mF a1 a2 x.1 x.2) else (some (.inr (.inl x.2))))
theorem TC(hd:4≤d){a1 a2:S8}{r:(S8×(List Int))⊕(((List Int))⊕(S8×(List Int)×Int))}(hQ:FQ (bG (oy a1 a2) (rU a1 a2) r) Q){x:S8×(List Int)}(hS:nk a1 a2 x=some r)(he:oy a1 a2 x st):ZX d Q ZW [] st:=by
 refine ay he (aC (zS (zL 1 (sB 22 hS (fun hS=>?_) (fun hS=>?_)))))
 ·exact jL (JR hd hQ hS)
 ·exact zK (zF (ay (J:=A8 a1 a2 x.2) (by kernel_rfl) (dh (cY (bk (jA hS hQ))))))
def XA(a1 a2:S8):St:=⟨(up (up u0 1 (.d (.str a2))) 0 (.d (.str a1))),h0⟩
def JS(a1 a2:S8):Option (S8×(List Int)×Int):=((ep a1 a2).bind fun JH=>((b9 (nk a1 a2) (JH,[])).bind fun z75=>(Sum.elim (fun z76=>(some ([],z76,0))) (fun Te=>(some (Te.1,Te.2.1,Te.2.2))) z75)))
theorem TD(hd:4≤d){a1 a2:S8}{r:S8×(List Int)×Int}(hQ:FQ (acr r) Q)(hS:JS a1 a2=some r): ∀st,au [0,1] [] [] st=XA a1 a2→ZX d Q ZY [] st:=by
 intro st he
 refine ay he (zS (zL 1 (zK (aC (zS (zL 2 (aq hS (fun JH am1 hS=>zO (v:=(.d (.str JH))) (aD:= []) (some 20) (.jD .add (tm 18) (tm 19)) (gJ (a:=a1) (c:=a2) (by kernel_rfl) (by kernel_rfl) am1) (zL 1 (zK (bz (aq hS (fun z75 amt hS=>dN (oy a1 a2) (rU a1 a2) (fun x st r Q h0 hS hQ=>TC hd hQ hS h0) (x:=(JH,[])) (z:=z75) (by show au _ _ _ _=_;kernel_rfl) amt ?_)))))))))))))
 rcases z75 with z76 | Te
 ·replace hS:=(show _=_ from hS)
  simp only [ua] at hS
  intro e bl _ hX
  obtain ⟨rfl,rfl⟩:_∧_:=hX
  exact j9 (cj (zS (zL 4 (zK (cM (bk (eA hS hQ (fR Fa))))))))
 ·simp only [ud] at hS
  intro e bl _ hX
  obtain ⟨rfl,hX⟩:_∧_:=hX
  exact cr (bP (bk (eA hS hQ (jv (by kernel_rfl) ((congrArg (fun s=>cP s 0 Jf.res) hX).trans Fa)))))
def f106(a1 a2:S8):Option (S8×(List Int)×Int):=((f20 a1).bind fun Tf=>(bif (!decide (Tf=0)) then (some ([],[],Tf)) else (JS a1 a2)))
theorem am2{d:Nat}(hd:4≤d){a1 a2:S8}{r:S8×(List Int)×Int}(hS:f106 a1 a2=some r):bW av aX d 106 [(.d (.str a1)),(.d (.str a2))] []=some ((.bE [(.d (.str r.1)),(.r (.own 0 3 1 r.2.1.length (eI.cells r.2.1))),(dI r.2.2)]),[]):=by
 refine cL acr hd (fun Q hQ=>?_) ad9
 refine zS (zL 3 (zK (aC (zS (zL 1 (aq hS (fun Tf amu hS=>zC 14 (ab5 (aU hd rfl) amu) (zL 1 (zK (zS (zL 1 (sB 16 hS (fun hS=>?_) (fun hS=>?_)))))))))))))
 ·exact zK (zT (zS (zL 4 (zK (cM (bP (bk (eA hS hQ (fR Fa)))))))))
 ·exact jL (TD hd hQ hS)
/- (*farwriter/parse.machine).emit -/
def auc(r:Int×Int×S8×S8×S8×(List aL))(e:PX)(st:St):Prop:=aV ZZ 2 ((.bE []),[(.box ((dI r.1)::((dI r.2.1)::((.d (.str r.2.2.1))::((.d (.str r.2.2.2.1))::((.d (.str r.2.2.2.2.1))::((.r (.aJ 1 0 0 r.2.2.2.2.2.length)):: []))))))),(.own 248 6 (bB.cells r.2.2.2.2.2))]) e st
def f179(a1:aL)(a2 a3:Int)(a4 a5 a6:S8)(a7:List aL):Option (Int×Int×S8×S8×S8×(List aL)):=((eN 80 a7 ([a1]:List aL)).bind fun z2=>(some (a2,a3,a4,a5,a6,z2)))
theorem nr{d:Nat}(hd:1≤d){a1:aL}{a2 a3:Int}{a4 a5 a6:S8}{a7:List aL}{r:Int×Int×S8×S8×S8×(List aL)}(hS:f179 a1 a2 a3 a4 a5 a6 a7=some r):bW av aX d 179 [(pt 0),(Nd a1)] [(.box ((dI a2)::((dI a3)::((.d (.str a4))::((.d (.str a5))::((.d (.str a6))::((.r (.aJ 1 0 0 a7.length)):: []))))))),(.own 248 6 (bB.cells a7))]=some ((.bE []),[(.box ((dI r.1)::((dI r.2.1)::((.d (.str r.2.2.1))::((.d (.str r.2.2.2.1))::((.d (.str r.2.2.2.2.1))::((.r (.aJ 1 0 0 r.2.2.2.2.2.length)):: []))))))),(.own 248 6 (bB.cells r.2.2.2.2.2))]):=by
 refine cL auc hd (fun Q hQ=>?_) aeo
 exact zS (zL 1 (zK (cC (cy 7 (aq hS (fun z2 hz2 hS=>dr (v:=(.r (.aJ 1 1 0 z2.length))) (aD:= [(1,⟨1,some (.own 248 6 (bB.cells z2))⟩)]) (some 11) none (.app 248 6 80 (tm 8) (tm 10)) (eL bB (b:=1) (g:=0) (n:=a7.length) (xs:=a7) (ys:= [a1]) ((congrArg (fJ _) (by kernel_rfl:bU _ (.tmp 10)=(.r (.aJ 88 1 0 (([a1]:List aL).length))))).trans (cX bB (e:=248) (k:=6) (xs:= [a1]) (by kernel_rfl) rfl rfl)) rfl (by kernel_rfl) rfl (by kernel_rfl) rfl hz2) (cy 3 (fL (nK hS hQ)))))))))
/- (*farwriter/parse.machine).enter -/
def aud(r:Int×(List aL))(e:PX)(st:St):Prop:=aV Z1 2 ((.bE []),[(.box ((dI r.1)::((dI 0)::((.d (.str ([])))::((.d (.str ([])))::((.d (.str ([])))::((.r (.aJ 1 0 0 r.2.length)):: []))))))),(.own 248 6 (bB.cells r.2))]) e st
def f180(a1 a2 a3:Int)(a4 a5 a6:S8)(a7:List aL):Option (Int×(List aL)):=(some (a1,a7))
theorem oZ{d:Nat}(hd:1≤d){a1 a2 a3:Int}{a4 a5 a6:S8}{a7:List aL}{r:Int×(List aL)}(hS:f180 a1 a2 a3 a4 a5 a6 a7=some r):bW av aX d 180 [(pt 0),(dI a1)] [(.box ((dI a2)::((dI a3)::((.d (.str a4))::((.d (.str a5))::((.d (.str a6))::((.r (.aJ 1 0 0 a7.length)):: []))))))),(.own 248 6 (bB.cells a7))]=some ((.bE []),[(.box ((dI r.1)::((dI 0)::((.d (.str ([])))::((.d (.str ([])))::((.d (.str ([])))::((.r (.aJ 1 0 0 r.2.length)):: []))))))),(.own 248 6 (bB.cells r.2))]):=by
 refine cL aud hd (fun Q hQ=>?_) aep
 exact nR hS hQ
/- (*farwriter/parse.machine).drop -/
def aue(r:Int×(List aL))(e:PX)(st:St):Prop:=aV Z2 2 ((.bE []),[(.box ((dI r.1)::((dI 0)::((.d (.str ([])))::((.d (.str ([])))::((.d (.str ([])))::((.r (.aJ 1 0 0 r.2.length)):: []))))))),(.own 248 6 (bB.cells r.2))]) e st
def f181(a1 a2 a3:Int)(a4 a5 a6:S8)(a7:List aL):Option (Int×(List aL)):=((f179 (aL.mk 6 0 0 ([]) ([]) ([])) a2 a3 a4 a5 a6 a7).bind fun z3=>((f180 a1 z3.1 z3.2.1 z3.2.2.1 z3.2.2.2.1 z3.2.2.2.2.1 z3.2.2.2.2.2).bind fun z4=>(some (z4.1,z4.2))))
theorem xL{d:Nat}(hd:2≤d){a1 a2 a3:Int}{a4 a5 a6:S8}{a7:List aL}{r:Int×(List aL)}(hS:f181 a1 a2 a3 a4 a5 a6 a7=some r):bW av aX d 181 [(pt 0),(dI a1)] [(.box ((dI a2)::((dI a3)::((.d (.str a4))::((.d (.str a5))::((.d (.str a6))::((.r (.aJ 1 0 0 a7.length)):: []))))))),(.own 248 6 (bB.cells a7))]=some ((.bE []),[(.box ((dI r.1)::((dI 0)::((.d (.str ([])))::((.d (.str ([])))::((.d (.str ([])))::((.r (.aJ 1 0 0 r.2.length)):: []))))))),(.own 248 6 (bB.cells r.2))]):=by
 refine cL aue hd (fun Q hQ=>?_) aeq
 exact zS (zL 2 (aq hS (fun z3 hz3 hS=>fS 6 [0,1] (nr (aU hd rfl) hz3) (zK (a_ (zL 2 (aq hS (fun z4 jf hS=>fS 9 [0,1] (oZ (aU hd rfl) jf) (nL hS hQ)))))))))
/- (*farwriter/parse.machine).text -/
def auf(r:Int×Int×S8×S8×S8×(List aL))(e:PX)(st:St):Prop:=aV Z3 2 ((.bE []),[(.box ((dI r.1)::((dI r.2.1)::((.d (.str r.2.2.1))::((.d (.str r.2.2.2.1))::((.d (.str r.2.2.2.2.1))::((.r (.aJ 1 0 0 r.2.2.2.2.2.length)):: []))))))),(.own 248 6 (bB.cells r.2.2.2.2.2))]) e st
def f178(a1 a2 a3:Int)(a4 a5 a6:S8)(a7:List aL):Option (Int×Int×S8×S8×S8×(List aL)):=(bif (decide (a1=27)) then (some ((IntKind.i64.wrap (a2+1)),a3,a4,a5,a6,a7)) else (bif (decide (a1=24)) then ((f181 0 a2 a3 a4 a5 a6 a7).bind fun z7=>(some (z7.1,0,[],[],[],z7.2))) else (bif (decide (a1=26)) then ((f181 0 a2 a3 a4 a5 a6 a7).bind fun z8=>(some (z8.1,0,[],[],[],z8.2))) else (bif (decide (a2=9)) then (some (a2,a3,a4,a5,a6,a7)) else (bif (decide (a1=7)) then ((f179 (aL.mk 5 0 0 ([]) ([]) a6) a2 a3 a4 a5 a6 a7).bind fun z9=>((f180 0 z9.1 z9.2.1 z9.2.2.1 z9.2.2.2.1 z9.2.2.2.2.1 z9.2.2.2.2.2).bind fun dG=>(some (dG.1,0,[],[],[],dG.2)))) else (bif (decide (a1<32)) then (some (a2,a3,a4,a5,a6,a7)) else ((f55 a1 127 159).bind fun z12=>(bif z12 then (some (a2,a3,a4,a5,a6,a7)) else ((f78 [a1]).bind fun fk=>((ep a6 fk).bind fun dy=>(bif (decide ((dy.length:Int)≤256)) then (some (a2,a3,a4,a5,dy,a7)) else (some (a2,a3,a4,a5,a6,a7)))))))))))))
theorem am3{d:Nat}(hd:4≤d){a1 a2 a3:Int}{a4 a5 a6:S8}{a7:List aL}{r:Int×Int×S8×S8×S8×(List aL)}(hS:f178 a1 a2 a3 a4 a5 a6 a7=some r):bW av aX d 178 [(pt 0),(dI a1)] [(.box ((dI a2)::((dI a3)::((.d (.str a4))::((.d (.str a5))::((.d (.str a6))::((.r (.aJ 1 0 0 a7.length)):: []))))))),(.own 248 6 (bB.cells a7))]=some ((.bE []),[(.box ((dI r.1)::((dI r.2.1)::((.d (.str r.2.2.1))::((.d (.str r.2.2.2.1))::((.d (.str r.2.2.2.2.1))::((.r (.aJ 1 0 0 r.2.2.2.2.2.length)):: []))))))),(.own 248 6 (bB.cells r.2.2.2.2.2))]):=by
 refine cL auf hd (fun Q hQ=>?_) aen
 refine bz (zS (zL 1 (sB 24 hS (fun hS=>?_) (fun hS=>?_))))
 ·exact nL hS hQ
 ·refine zL 1 (zK (zF (zS (zL 1 (sB 36 hS (fun hS=>?_) (fun hS=>?_))))))
  ·exact zL 5 (zK (zT (a_ (zL 1 (aq hS (fun z7 l8 hS=>fS 42 [0,1] (xL (aU hd rfl) l8) (nL hS hQ)))))))
  ·refine zL 2 (sB 39 hS (fun hS=>?_) (fun hS=>?_))
   ·exact zL 2 (zK (zT (a_ (zL 1 (aq hS (fun z8 je hS=>fS 42 [0,1] (xL (aU hd rfl) je) (nL hS hQ)))))))
   ·refine zL 2 (zK (zF (zS (zL 5 (sB 49 hS (fun hS=>?_) (fun hS=>?_))))))
    ·exact nL hS hQ
    ·refine zL 1 (zK (zF (zS (zL 1 (sB 52 hS (fun hS=>?_) (fun hS=>?_))))))
     ·exact zL 1 (zK (zT (zS (zL 7 (aq hS (fun z9 jI hS=>fS 60 [0,1] (nr (aU hd rfl) jI) (zK (a_ (zL 1 (aq hS (fun dG jF hS=>fS 62 [0,1] (oZ (aU hd rfl) jF) (nL hS hQ))))))))))))
     ·refine zL 1 (zK (zF (zS (zL 1 (sB 65 hS (fun hS=>?_) (fun hS=>?_))))))
      ·exact nL hS hQ
      ·refine zL 2 (aq hS (fun z12 gO hS=>zG (some 68) 66 false (.call 55 [(tm 67),(ki 127),(ki 159)]) (bX (Dk (aU hd rfl) gO)) (zL 2 (zK (sR 63 hS (fun hS=>?_) (fun hS=>?_))))))
       ·exact nR hS hQ
       ·refine zF (aC (cC (cy 7 (aq hS (fun fk kX hS=>dr (some 12) none (c1 78 11) (iI (args:= [(.r (.aJ 96 1 0 (([a1]:List Int).length)))]) (by kernel_rfl) (jr (tG eI (e:=3) (k:=1) (xs:= [a1]) (by kernel_rfl) rfl rfl) l5) (zR (aU hd rfl) kX) (by kernel_rfl) (by kernel_rfl)) (aq hS (fun dy jm hS=>dr (v:=(.d (.str dy))) (aD:= []) (some 13) none (.jD .add (tm 9) (tm 12)) (gJ (a:=a6) (c:=fk) (by kernel_rfl) (by kernel_rfl) jm) (cy 1 (fL (cj (zS (zL 2 (sB 16 hS (fun hS=>?_) (fun hS=>?_))))))))))))))
        ·exact nL hS hQ
        ·exact nL hS hQ
/- (*farwriter/parse.machine).control -/
def QJ(r:Int×Int×S8×S8×S8×(List aL)×Bool)(e:PX)(st:St):Prop:=aV Z5 2 ((dB r.2.2.2.2.2.2),[(.box ((dI r.1)::((dI r.2.1)::((.d (.str r.2.2.1))::((.d (.str r.2.2.2.1))::((.d (.str r.2.2.2.2.1))::((.r (.aJ 1 0 0 r.2.2.2.2.2.1.length)):: []))))))),(.own 248 6 (bB.cells r.2.2.2.2.2.1))]) e st
def XB(a1 a2 a3:Int)(a4 a5 a6:S8)(a7:List aL)(XC:Int):St:=⟨(up (up (up u0 1000001 .un) 5 (dI XC)) 0 (pt 0)),(up (up h0 1 ⟨1,some (.own 248 6 (bB.cells a7))⟩) 0 ⟨0,some (.box ((dI a2)::((dI a3)::((.d (.str a4))::((.d (.str a5))::((.d (.str a6))::((.r (.aJ 1 1 0 a7.length)):: [])))))))⟩)⟩
def xM(a1 a2 a3:Int)(a4 a5 a6:S8)(a7:List aL)(XC:Int):Option (Int×Int×S8×S8×S8×(List aL)×Bool):=(bif (!decide (a2=0)) then ((f179 (aL.mk 6 0 0 ([]) ([]) ([])) a2 a3 a4 a5 a6 a7).bind fun z7=>((f180 XC z7.1 z7.2.1 z7.2.2.1 z7.2.2.2.1 z7.2.2.2.2.1 z7.2.2.2.2.2).bind fun z8=>(some (z8.1,0,[],[],[],z8.2,true)))) else ((f180 XC a2 a3 a4 a5 a6 a7).bind fun z9=>(some (z9.1,0,[],[],[],z9.2,true))))
theorem F9(hd:2≤d){a1 a2 a3:Int}{a4 a5 a6:S8}{a7:List aL}{r:Int×Int×S8×S8×S8×(List aL)×Bool}(hQ:FQ (QJ r) Q){XC:Int}(hS:xM a1 a2 a3 a4 a5 a6 a7 XC=some r): ∀st,au [0,5,1000001] [(0,.id 0),(1,.id 1)] [] st=XB a1 a2 a3 a4 a5 a6 a7 XC→ZX d Q Pk [] st:=by
 intro st he
 refine ay he (aC (zS (zL 5 (sB 30 hS (fun hS=>?_) (fun hS=>?_)))))
 ·exact zK (zT (a_ (zL 2 (aq hS (fun z7 l8 hS=>fS 33 [0,1] (nr (aU hd rfl) l8) (zK (zS (zL 2 (aq hS (fun z8 je hS=>fS 36 [0,1] (oZ (aU hd rfl) je) (nL hS hQ)))))))))))
 ·exact zK (zF (fP (cj (zS (zL 2 (aq hS (fun z9 jI hS=>fS 36 [0,1] (oZ (aU hd rfl) jI) (nL hS hQ))))))))
def XD(a1 a2 a3:Int)(a4 a5 a6:S8)(a7:List aL):St:=⟨(up (up (up u0 1000001 .un) 5 (dI 0)) 0 (pt 0)),(up (up h0 1 ⟨1,some (.own 248 6 (bB.cells a7))⟩) 0 ⟨0,some (.box ((dI a2)::((dI a3)::((.d (.str a4))::((.d (.str a5))::((.d (.str a6))::((.r (.aJ 1 1 0 a7.length)):: [])))))))⟩)⟩
def xN(a1 a2 a3:Int)(a4 a5 a6:S8)(a7:List aL):Option (Int×Int×S8×S8×S8×(List aL)×Bool):=(xM a1 a2 a3 a4 a5 a6 a7 0)
theorem F_(hd:2≤d){a1 a2 a3:Int}{a4 a5 a6:S8}{a7:List aL}{r:Int×Int×S8×S8×S8×(List aL)×Bool}(hQ:FQ (QJ r) Q)(hS:xN a1 a2 a3 a4 a5 a6 a7=some r): ∀st,au [0,5,1000001] [(0,.id 0),(1,.id 1)] [] st=XD a1 a2 a3 a4 a5 a6 a7→ZX d Q Z4 [.blk 0,.seq Pk] st:=by
 intro st he
 exact ay he (jR (F9 hd hQ hS))
def f182(a1 a2 a3:Int)(a4 a5 a6:S8)(a7:List aL):Option (Int×Int×S8×S8×S8×(List aL)×Bool):=(bif (decide (a1=27)) then (xM a1 a2 a3 a4 a5 a6 a7 1) else (bif (decide (a1=24)) then (xN a1 a2 a3 a4 a5 a6 a7) else (bif (decide (a1=26)) then (xN a1 a2 a3 a4 a5 a6 a7) else (bif (decide (a1<32)) then ((f179 (aL.mk 2 a1 0 ([]) ([]) ([])) a2 a3 a4 a5 a6 a7).bind fun dG=>(some (dG.1,dG.2.1,dG.2.2.1,dG.2.2.2.1,dG.2.2.2.2.1,dG.2.2.2.2.2,true))) else ((f55 a1 127 159).bind fun cS=>(some (a2,a3,a4,a5,a6,a7,cS)))))))
theorem am4{d:Nat}(hd:2≤d){a1 a2 a3:Int}{a4 a5 a6:S8}{a7:List aL}{r:Int×Int×S8×S8×S8×(List aL)×Bool}(hS:f182 a1 a2 a3 a4 a5 a6 a7=some r):bW av aX d 182 [(pt 0),(dI a1)] [(.box ((dI a2)::((dI a3)::((.d (.str a4))::((.d (.str a5))::((.d (.str a6))::((.r (.aJ 1 0 0 a7.length)):: []))))))),(.own 248 6 (bB.cells a7))]=some ((dB r.2.2.2.2.2.2),[(.box ((dI r.1)::((dI r.2.1)::((.d (.str r.2.2.1))::((.d (.str r.2.2.2.1))::((.d (.str r.2.2.2.2.1))::((.r (.aJ 1 0 0 r.2.2.2.2.2.1.length)):: []))))))),(.own 248 6 (bB.cells r.2.2.2.2.2.1))]):=by
 refine cL QJ hd (fun Q hQ=>?_) aer
 refine zS (zL 1 (zK (zS (zL 1 (zK (aC (bz (zS (zL 1 (sB 10 hS (fun hS=>?_) (fun hS=>?_)))))))))))
 ·exact jL (F9 hd hQ hS)
 ·refine zL 1 (zK (zF (zS (zL 1 (sB 13 hS (fun hS=>?_) (fun hS=>?_))))))
  ·exact zL 5 (zK (zT (F_ hd hQ hS _ (by kernel_rfl))))
  ·refine zL 2 (sB 16 hS (fun hS=>?_) (fun hS=>?_))
   ·exact zL 2 (zK (zT (F_ hd hQ hS _ (by kernel_rfl))))
   ·refine zL 2 (zK (zF (zS (zL 1 (sB 20 hS (fun hS=>?_) (fun hS=>?_))))))
    ·exact zL 1 (zK (zT (zS (zL 3 (aq hS (fun dG jF hS=>fS 24 [0,1] (nr (aU hd rfl) jF) (nL hS hQ)))))))
    ·exact zL 1 (zK (zF (zS (zL 1 (aq hS (fun cS kf hS=>zC 7 (Dk (aU hd rfl) kf) (nL hS hQ)))))))
/- (*farwriter/parse.machine).more -/
def aug(r:Int×Int×S8×S8×S8×(List aL))(e:PX)(st:St):Prop:=aV Z6 2 ((.bE []),[(.box ((dI r.1)::((dI r.2.1)::((.d (.str r.2.2.1))::((.d (.str r.2.2.2.1))::((.d (.str r.2.2.2.2.1))::((.r (.aJ 1 0 0 r.2.2.2.2.2.length)):: []))))))),(.own 248 6 (bB.cells r.2.2.2.2.2))]) e st
def f206(a1 a2 a3:Int)(a4 a5 a6:S8)(a7:List aL):Option (Int×Int×S8×S8×S8×(List aL)):=(bif (decide ((a4.length:Int)<3)) then ((ep a4 ((Utf8.encode (IntKind.i32.wrap (a1))).data.toList)).bind fun z2=>(some (a2,a3,z2,a5,a6,a7))) else (some (a2,a3,a4,a5,a6,a7)))
theorem TE{d:Nat}(hd:1≤d){a1 a2 a3:Int}{a4 a5 a6:S8}{a7:List aL}{r:Int×Int×S8×S8×S8×(List aL)}(hS:f206 a1 a2 a3 a4 a5 a6 a7=some r):bW av aX d 206 [(pt 0),(dI a1)] [(.box ((dI a2)::((dI a3)::((.d (.str a4))::((.d (.str a5))::((.d (.str a6))::((.r (.aJ 1 0 0 a7.length)):: []))))))),(.own 248 6 (bB.cells a7))]=some ((.bE []),[(.box ((dI r.1)::((dI r.2.1)::((.d (.str r.2.2.1))::((.d (.str r.2.2.2.1))::((.d (.str r.2.2.2.2.1))::((.r (.aJ 1 0 0 r.2.2.2.2.2.length)):: []))))))),(.own 248 6 (bB.cells r.2.2.2.2.2))]):=by
 refine cL aug hd (fun Q hQ=>?_) aeB
 refine zS (zL 6 (sB 10 hS (fun hS=>?_) (fun hS=>?_)))
 ·exact zK (zT (a_ (zL 8 (aq hS (fun z2 hz2 hS=>zO (v:=(.d (.str z2))) (aD:= []) (some 19) (.jD .add (tm 15) (tm 18)) (gJ (a:=a4) (c:=(Utf8.encode (IntKind.i32.wrap (a1))).data.toList) (by kernel_rfl) (by kernel_rfl) hz2) (nL hS hQ))))))
 ·exact nL hS hQ
/- (*farwriter/parse.machine).final -/
def auh(r:Int×(List aL))(e:PX)(st:St):Prop:=aV Z7 2 ((.bE []),[(.box ((dI r.1)::((dI 0)::((.d (.str ([])))::((.d (.str ([])))::((.d (.str ([])))::((.r (.aJ 1 0 0 r.2.length)):: []))))))),(.own 248 6 (bB.cells r.2))]) e st
def f207(a1:aL)(a2 a3:Int)(a4 a5 a6:S8)(a7:List aL):Option (Int×(List aL)):=(bif (decide ((a4.length:Int)=3)) then ((f179 (aL.mk 6 0 0 ([]) ([]) ([])) a2 a3 a4 a5 a6 a7).bind fun z3=>((f180 0 z3.1 z3.2.1 z3.2.2.1 z3.2.2.2.1 z3.2.2.2.2.1 z3.2.2.2.2.2).bind fun z4=>(some (z4.1,z4.2)))) else ((f179 a1 a2 a3 a4 a5 a6 a7).bind fun z5=>((f180 0 z5.1 z5.2.1 z5.2.2.1 z5.2.2.2.1 z5.2.2.2.2.1 z5.2.2.2.2.2).bind fun z6=>(some (z6.1,z6.2)))))
theorem JT{d:Nat}(hd:2≤d){a1:aL}{a2 a3:Int}{a4 a5 a6:S8}{a7:List aL}{r:Int×(List aL)}(hS:f207 a1 a2 a3 a4 a5 a6 a7=some r):bW av aX d 207 [(pt 0),(Nd a1)] [(.box ((dI a2)::((dI a3)::((.d (.str a4))::((.d (.str a5))::((.d (.str a6))::((.r (.aJ 1 0 0 a7.length)):: []))))))),(.own 248 6 (bB.cells a7))]=some ((.bE []),[(.box ((dI r.1)::((dI 0)::((.d (.str ([])))::((.d (.str ([])))::((.d (.str ([])))::((.r (.aJ 1 0 0 r.2.length)):: []))))))),(.own 248 6 (bB.cells r.2))]):=by
 refine cL auh hd (fun Q hQ=>?_) aeC
 refine zS (zL 1 (zK (aC (zS (zL 6 (sB 10 hS (fun hS=>?_) (fun hS=>?_)))))))
 ·exact zK (zT (a_ (zL 2 (zK (zS (zL 2 (aq hS (fun z3 hz3 hS=>fS 14 [0,1] (nr (aU hd rfl) hz3) (zK (a_ (zL 1 (aq hS (fun z4 jf hS=>fS 16 [0,1] (oZ (aU hd rfl) jf) (nL hS hQ))))))))))))))
 ·exact zK (zF (fP (cj (zS (zL 2 (aq hS (fun z5 jZ hS=>fS 14 [0,1] (nr (aU hd rfl) jZ) (zK (a_ (zL 1 (aq hS (fun z6 nH hS=>fS 16 [0,1] (oZ (aU hd rfl) nH) (nL hS hQ)))))))))))))
/- strings.IndexByte -/
theorem Fb{d:Nat}(hd:0≤d){a1:S8}{a2:UInt8}{r:Int}(hS:lD a1 a2=some r):bW av aX d 208 [(.d (.str a1)),(.d (.int .u8 (a2.toNat:Int)))] []=some ((dI r),[]):=oa (l:=libs) rfl rfl rfl (ax1 hS) d
/- (*farwriter/parse.machine).esc -/
def aui(r:Int×Int×S8×S8×S8×(List aL))(e:PX)(st:St):Prop:=aV Z8 2 ((.bE []),[(.box ((dI r.1)::((dI r.2.1)::((.d (.str r.2.2.1))::((.d (.str r.2.2.2.1))::((.d (.str r.2.2.2.2.1))::((.r (.aJ 1 0 0 r.2.2.2.2.2.length)):: []))))))),(.own 248 6 (bB.cells r.2.2.2.2.2))]) e st
def f183(a1 a2 a3:Int)(a4 a5 a6:S8)(a7:List aL):Option (Int×Int×S8×S8×S8×(List aL)):=(bif (decide (a1<48)) then ((f206 a1 a2 a3 a4 a5 a6 a7).bind fun z5=>(some (2,z5.2.1,z5.2.2.1,z5.2.2.2.1,z5.2.2.2.2.1,z5.2.2.2.2.2))) else (bif (decide (a2=2)) then ((f207 (aL.mk 3 a1 0 a4 ([]) ([])) a2 a3 a4 a5 a6 a7).bind fun z6=>(some (z6.1,0,[],[],[],z6.2))) else (bif (decide (a1=91)) then (some (3,a3,a4,a5,a6,a7)) else (bif (decide (a1=93)) then (some (7,a3,a4,a5,a6,a7)) else ((lD [80,88,94,95] (u8 a1)).bind fun z8=>(bif (decide (0≤z8)) then (some (9,a3,a4,a5,a6,a7)) else ((f207 (aL.mk 3 a1 0 ([]) ([]) ([])) a2 a3 a4 a5 a6 a7).bind fun z9=>(some (z9.1,0,[],[],[],z9.2)))))))))
theorem am5{d:Nat}(hd:3≤d){a1 a2 a3:Int}{a4 a5 a6:S8}{a7:List aL}{r:Int×Int×S8×S8×S8×(List aL)}(hS:f183 a1 a2 a3 a4 a5 a6 a7=some r):bW av aX d 183 [(pt 0),(dI a1)] [(.box ((dI a2)::((dI a3)::((.d (.str a4))::((.d (.str a5))::((.d (.str a6))::((.r (.aJ 1 0 0 a7.length)):: []))))))),(.own 248 6 (bB.cells a7))]=some ((.bE []),[(.box ((dI r.1)::((dI r.2.1)::((.d (.str r.2.2.1))::((.d (.str r.2.2.2.1))::((.d (.str r.2.2.2.2.1))::((.r (.aJ 1 0 0 r.2.2.2.2.2.length)):: []))))))),(.own 248 6 (bB.cells r.2.2.2.2.2))]):=by
 refine cL aui hd (fun Q hQ=>?_) aes
 refine bz (zS (zL 1 (sB 10 hS (fun hS=>?_) (fun hS=>?_))))
 ·exact zL 1 (zK (zT (zS (zL 2 (aq hS (fun z5 jZ hS=>fS 13 [0,1] (TE (aU hd rfl) jZ) (nL hS hQ)))))))
 ·refine zL 1 (zK (zF (zS (zL 5 (sB 24 hS (fun hS=>?_) (fun hS=>?_))))))
  ·exact zL 1 (zK (zT (a_ (zL 8 (aq hS (fun z6 nH hS=>fS 33 [0,1] (JT (aU hd rfl) nH) (nL hS hQ)))))))
  ·refine zL 1 (zK (zF (zS (zL 1 (sB 36 hS (fun hS=>?_) (fun hS=>?_))))))
   ·exact nL hS hQ
   ·refine zL 1 (zK (zF (zS (zL 1 (sB 43 hS (fun hS=>?_) (fun hS=>?_))))))
    ·exact nL hS hQ
    ·refine zL 1 (zK (zF (zS (zL 1 (zO (v:=(.d (.int .u8 ((u8 a1).toNat:Int)))) (aD:= []) (some 50) (.ku .u8 (tm 49)) (gC (kk:= .i64) (a:=a1) (by kernel_rfl) (iq _)) (aq hS (fun z8 je hS=>zC 51 (Fb (aU hd rfl) je) (sB 52 hS (fun hS=>?_) (fun hS=>?_)))))))))
     ·exact nL hS hQ
     ·exact zL 1 (zK (zF (a_ (zL 3 (aq hS (fun z9 jI hS=>fS 7 [0,1] (JT (aU hd rfl) jI) (nL hS hQ)))))))
/- (*farwriter/parse.machine).ignore -/
def auj(r:(List aL))(e:PX)(st:St):Prop:=aV Z9 2 ((.bE []),[(.box ((dI 6)::((dI 0)::((.d (.str ([])))::((.d (.str ([])))::((.d (.str ([])))::((.r (.aJ 1 0 0 r.length)):: []))))))),(.own 248 6 (bB.cells r))]) e st
def f209(a1 a2:Int)(a3 a4 a5:S8)(a6:List aL):Option ((List aL)):=(some a6)
theorem JU{d:Nat}(hd:1≤d){a1 a2:Int}{a3 a4 a5:S8}{a6:List aL}{r:(List aL)}(hS:f209 a1 a2 a3 a4 a5 a6=some r):bW av aX d 209 [(pt 0)] [(.box ((dI a1)::((dI a2)::((.d (.str a3))::((.d (.str a4))::((.d (.str a5))::((.r (.aJ 1 0 0 a6.length)):: []))))))),(.own 248 6 (bB.cells a6))]=some ((.bE []),[(.box ((dI 6)::((dI 0)::((.d (.str ([])))::((.d (.str ([])))::((.d (.str ([])))::((.r (.aJ 1 0 0 r.length)):: []))))))),(.own 248 6 (bB.cells r))]):=by
 refine cL auj hd (fun Q hQ=>?_) aeD
 exact nR hS hQ
/- (*farwriter/parse.machine).csi -/
def acu(r:Int×Int×S8×S8×S8×(List aL))(e:PX)(st:St):Prop:=aV aaa 2 ((.bE []),[(.box ((dI r.1)::((dI r.2.1)::((.d (.str r.2.2.1))::((.d (.str r.2.2.2.1))::((.d (.str r.2.2.2.2.1))::((.r (.aJ 1 0 0 r.2.2.2.2.2.length)):: []))))))),(.own 248 6 (bB.cells r.2.2.2.2.2))]) e st
def XE(a1 a2 a3:Int)(a4 a5 a6:S8)(a7:List aL)(gK:List Int):St:=⟨(up (up (up (up u0 1000001 .un) 4 (dL gK)) 1 (dI a1)) 0 (pt 0)),(up (up h0 1 ⟨1,some (.own 248 6 (bB.cells a7))⟩) 0 ⟨0,some (.box ((dI a2)::((dI a3)::((.d (.str a4))::((.d (.str a5))::((.d (.str a6))::((.r (.aJ 1 1 0 a7.length)):: [])))))))⟩)⟩
def JV(a1 a2 a3:Int)(a4 a5 a6:S8)(a7:List aL)(gK:List Int):Option (Int×Int×S8×S8×S8×(List aL)):=((f207 (aL.mk 4 a1 a3 a4 gK ([])) a2 a3 a4 a5 a6 a7).bind fun cS=>(some (cS.1,0,[],[],[],cS.2)))
theorem TF(hd:3≤d){a1 a2 a3:Int}{a4 a5 a6:S8}{a7:List aL}{r:Int×Int×S8×S8×S8×(List aL)}(hQ:FQ (acu r) Q){gK:List Int}(hS:JV a1 a2 a3 a4 a5 a6 a7 gK=some r): ∀st,au [0,1,4,1000001] [(0,.id 0),(1,.id 1)] [] st=XE a1 a2 a3 a4 a5 a6 a7 gK→ZX d Q Z_ [.blk 0] st:=by
 intro st he
 exact ay he (cC (cy 14 (aq hS (fun cS kf hS=>dr (some 55) none (.fO 207 [(tm 41),(tm 54)]) (Pd [0,1] (JT (aU hd rfl) kf)) (fL (nK hS hQ))))))
def f184(a1 a2 a3:Int)(a4 a5 a6:S8)(a7:List aL):Option (Int×Int×S8×S8×S8×(List aL)):=(bif (decide (a2=6)) then (bif (decide (64≤a1)) then ((f181 0 a2 a3 a4 a5 a6 a7).bind fun z8=>(some (z8.1,0,[],[],[],z8.2))) else (some (a2,a3,a4,a5,a6,a7))) else (bif (decide (a1<48)) then ((f206 a1 a2 a3 a4 a5 a6 a7).bind fun z9=>(some (5,z9.2.1,z9.2.2.1,z9.2.2.2.1,z9.2.2.2.2.1,z9.2.2.2.2.2))) else (bif (decide (64≤a1)) then ((f54 a5).bind fun dG=>(JV a1 a2 a3 a4 a5 a6 a7 dG.1)) else (bif (decide (a2=5)) then ((f209 a2 a3 a4 a5 a6 a7).bind fun z12=>(some (6,0,[],[],[],z12))) else (bif (decide (a1=58)) then ((f209 a2 a3 a4 a5 a6 a7).bind fun dP=>(some (6,0,[],[],[],dP))) else (bif (decide (a1<60)) then (bif (decide ((a5.length:Int)<100)) then ((ep a5 ((Utf8.encode (IntKind.i32.wrap (a1))).data.toList)).bind fun dU=>(some (4,a3,a4,dU,a6,a7))) else (some (4,a3,a4,a5,a6,a7))) else (bif (decide (a2=3)) then (some (4,a1,a4,a5,a6,a7)) else ((f209 a2 a3 a4 a5 a6 a7).bind fun fk=>(some (6,0,[],[],[],fk))))))))))
theorem am6{d:Nat}(hd:3≤d){a1 a2 a3:Int}{a4 a5 a6:S8}{a7:List aL}{r:Int×Int×S8×S8×S8×(List aL)}(hS:f184 a1 a2 a3 a4 a5 a6 a7=some r):bW av aX d 184 [(pt 0),(dI a1)] [(.box ((dI a2)::((dI a3)::((.d (.str a4))::((.d (.str a5))::((.d (.str a6))::((.r (.aJ 1 0 0 a7.length)):: []))))))),(.own 248 6 (bB.cells a7))]=some ((.bE []),[(.box ((dI r.1)::((dI r.2.1)::((.d (.str r.2.2.1))::((.d (.str r.2.2.2.1))::((.d (.str r.2.2.2.2.1))::((.r (.aJ 1 0 0 r.2.2.2.2.2.length)):: []))))))),(.own 248 6 (bB.cells r.2.2.2.2.2))]):=by
 refine cL acu hd (fun Q hQ=>?_) aet
 refine bz (zS (zL 5 (sB 14 hS (fun hS=>?_) (fun hS=>?_))))
 ·refine zL 1 (zK (zT (zS (zL 1 (sB 16 hS (fun hS=>?_) (fun hS=>?_))))))
  ·exact zK (zT (a_ (zL 1 (aq hS (fun z8 je hS=>fS 18 [0,1] (xL (aU hd rfl) je) (nL hS hQ))))))
  ·exact nL hS hQ
 ·refine zL 1 (zK (zF (zS (zL 1 (sB 21 hS (fun hS=>?_) (fun hS=>?_))))))
  ·exact zL 1 (zK (zT (zS (zL 2 (aq hS (fun z9 jI hS=>fS 24 [0,1] (TE (aU hd rfl) jI) (nL hS hQ)))))))
  ·refine zL 1 (zK (zF (zS (zL 1 (sB 31 hS (fun hS=>?_) (fun hS=>?_))))))
   ·exact zL 1 (zK (zT (zS (zL 5 (aq hS (fun dG jF hS=>zC 38 (ab7 (aU hd rfl) jF) (zL 5 (zK (TF hd hQ hS _ (by exact (by kernel_rfl:_=(⟨(up (up (up (up u0 1000001 .un) 4 (.d (.sl dG.1.length (((eI.cells dG.1).drop (0*eI.k)).take (dG.1.length*eI.k))))) 1 (dI a1)) 0 (pt 0)),(up (up h0 1 ⟨1,some (.own 248 6 (bB.cells a7))⟩) 0 ⟨0,some (.box ((dI a2)::((dI a3)::((.d (.str a4))::((.d (.str a5))::((.d (.str a6))::((.r (.aJ 1 1 0 a7.length)):: [])))))))⟩)⟩:St)).trans (by simp only [cT.O8];kernel_rfl)))))))))))
   ·refine zL 1 (zK (zF (zS (zL 5 (sB 62 hS (fun hS=>?_) (fun hS=>?_))))))
    ·exact zL 5 (zK (zT (a_ (zL 1 (aq hS (fun z12 gO hS=>fS 68 [0,1] (JU (aU hd rfl) gO) (nL hS hQ)))))))
    ·refine zL 2 (sB 65 hS (fun hS=>?_) (fun hS=>?_))
     ·exact zL 2 (zK (zT (a_ (zL 1 (aq hS (fun dP jn hS=>fS 68 [0,1] (JU (aU hd rfl) jn) (nL hS hQ)))))))
     ·refine zL 2 (zK (zF (zS (zL 1 (sB 71 hS (fun hS=>?_) (fun hS=>?_))))))
      ·refine zL 1 (zK (zT (aC (zS (zL 6 (sB 78 hS (fun hS=>?_) (fun hS=>?_)))))))
       ·exact zK (zT (a_ (zL 8 (aq hS (fun dU kg hS=>zO (v:=(.d (.str dU))) (aD:= []) (some 87) (.jD .add (tm 83) (tm 86)) (gJ (a:=a5) (c:=(Utf8.encode (IntKind.i32.wrap (a1))).data.toList) (by kernel_rfl) (by kernel_rfl) kg) (nL hS hQ))))))
       ·exact nL hS hQ
      ·refine zL 1 (zK (zF (zS (zL 5 (sB 101 hS (fun hS=>?_) (fun hS=>?_))))))
       ·exact nL hS hQ
       ·exact zL 1 (zK (zF (a_ (zL 1 (aq hS (fun fk kX hS=>fS 7 [0,1] (JU (aU hd rfl) kX) (nL hS hQ)))))))
/- (*farwriter/parse.machine).take -/
def DX(r:Int×Int×S8×S8×S8×(List aL))(e:PX)(st:St):Prop:=aV aae 2 ((.bE []),[(.box ((dI r.1)::((dI r.2.1)::((.d (.str r.2.2.1))::((.d (.str r.2.2.2.1))::((.d (.str r.2.2.2.2.1))::((.r (.aJ 1 0 0 r.2.2.2.2.2.length)):: []))))))),(.own 248 6 (bB.cells r.2.2.2.2.2))]) e st
def XF(a1 a2 a3:Int)(a4 a5 a6:S8)(a7:List aL)(Jm nt:Int)(jg h_ kH:S8)(eX:List aL):St:=⟨(up (up (up u0 1000001 .un) 1 (dI a1)) 0 (pt 0)),(up (up h0 1 ⟨1,some (.own 248 6 (bB.cells eX))⟩) 0 ⟨0,some (.box ((dI Jm)::((dI nt)::((.d (.str jg))::((.d (.str h_))::((.d (.str kH))::((.r (.aJ 1 1 0 eX.length)):: [])))))))⟩)⟩
def xO(a1 a2 a3:Int)(a4 a5 a6:S8)(a7:List aL)(Jm nt:Int)(jg h_ kH:S8)(eX:List aL):Option (Int×Int×S8×S8×S8×(List aL)):=((f182 a1 Jm nt jg h_ kH eX).bind fun dU=>(bif dU.2.2.2.2.2.2 then (some (dU.1,dU.2.1,dU.2.2.1,dU.2.2.2.1,dU.2.2.2.2.1,dU.2.2.2.2.2.1)) else (bif (decide (dU.1=0)) then ((f179 (aL.mk 1 a1 0 ([]) ([]) ([])) dU.1 dU.2.1 dU.2.2.1 dU.2.2.2.1 dU.2.2.2.2.1 dU.2.2.2.2.2.1).bind fun fk=>(some (fk.1,fk.2.1,fk.2.2.1,fk.2.2.2.1,fk.2.2.2.2.1,fk.2.2.2.2.2))) else (bif (decide (160≤a1)) then ((f181 0 dU.1 dU.2.1 dU.2.2.1 dU.2.2.2.1 dU.2.2.2.2.1 dU.2.2.2.2.2.1).bind fun dy=>(some (dy.1,0,[],[],[],dy.2))) else (bif (decide (dU.1≤2)) then ((f183 a1 dU.1 dU.2.1 dU.2.2.1 dU.2.2.2.1 dU.2.2.2.2.1 dU.2.2.2.2.2.1).bind fun fC=>(some (fC.1,fC.2.1,fC.2.2.1,fC.2.2.2.1,fC.2.2.2.2.1,fC.2.2.2.2.2))) else ((f184 a1 dU.1 dU.2.1 dU.2.2.1 dU.2.2.2.1 dU.2.2.2.2.1 dU.2.2.2.2.2.1).bind fun fD=>(some (fD.1,fD.2.1,fD.2.2.1,fD.2.2.2.1,fD.2.2.2.2.1,fD.2.2.2.2.2))))))))
theorem Ga(hd:5≤d){a1 a2 a3:Int}{a4 a5 a6:S8}{a7:List aL}{r:Int×Int×S8×S8×S8×(List aL)}(hQ:FQ (DX r) Q){Jm nt:Int}{jg h_ kH:S8}{eX:List aL}(hS:xO a1 a2 a3 a4 a5 a6 a7 Jm nt jg h_ kH eX=some r): ∀st,au [0,1,1000001] [(0,.id 0),(1,.id 1)] [] st=XF a1 a2 a3 a4 a5 a6 a7 Jm nt jg h_ kH eX→ZX d Q Hg [] st:=by
 intro st he
 refine ay he (bz (zS (zL 2 (aq hS (fun dU kg hS=>fS 53 [0,1] (am4 (aU hd rfl) kg) (zL 1 (zK (sR 50 hS (fun hS=>?_) (fun hS=>?_)))))))))
 ·exact nR hS hQ
 ·refine zF (zS (zL 5 (sB 60 hS (fun hS=>?_) (fun hS=>?_))))
  ·exact zL 1 (zK (zT (a_ (zL 3 (aq hS (fun fk kX hS=>fS 64 [0,1] (nr (aU hd rfl) kX) (nL hS hQ)))))))
  ·refine zL 1 (zK (zF (zS (zL 1 (sB 67 hS (fun hS=>?_) (fun hS=>?_))))))
   ·exact zL 1 (zK (zT (a_ (zL 1 (aq hS (fun dy jm hS=>fS 69 [0,1] (xL (aU hd rfl) jm) (nL hS hQ)))))))
   ·refine zL 1 (zK (zF (zS (zL 5 (sB 76 hS (fun hS=>?_) (fun hS=>?_))))))
    ·exact zL 1 (zK (zT (a_ (zL 2 (aq hS (fun fC ke hS=>fS 79 [0,1] (am5 (aU hd rfl) ke) (nL hS hQ)))))))
    ·exact zL 1 (zK (zF (a_ (zL 2 (aq hS (fun fD lJ hS=>fS 49 [0,1] (am6 (aU hd rfl) lJ) (nL hS hQ)))))))
def XG(a1 a2 a3:Int)(a4 a5 a6:S8)(a7:List aL)(ko:Bool):St:=⟨(up (up (up (up u0 1000001 .un) 22 (dB ko)) 1 (dI a1)) 0 (pt 0)),(up (up h0 1 ⟨1,some (.own 248 6 (bB.cells a7))⟩) 0 ⟨0,some (.box ((dI a2)::((dI a3)::((.d (.str a4))::((.d (.str a5))::((.d (.str a6))::((.r (.aJ 1 1 0 a7.length)):: [])))))))⟩)⟩
def rW(a1 a2 a3:Int)(a4 a5 a6:S8)(a7:List aL)(ko:Bool):Option (Int×Int×S8×S8×S8×(List aL)):=(bif ko then (bif (decide (a1=92)) then (bif (decide (a2=8)) then ((f179 (aL.mk 5 0 0 ([]) ([]) a6) a2 a3 a4 a5 a6 a7).bind fun z20=>((f180 0 z20.1 z20.2.1 z20.2.2.1 z20.2.2.2.1 z20.2.2.2.2.1 z20.2.2.2.2.2).bind fun z21=>(some (z21.1,0,[],[],[],z21.2)))) else ((f179 (aL.mk 6 0 0 ([]) ([]) ([])) a2 a3 a4 a5 a6 a7).bind fun z22=>((f180 0 z22.1 z22.2.1 z22.2.2.1 z22.2.2.2.1 z22.2.2.2.2.1 z22.2.2.2.2.2).bind fun z23=>(some (z23.1,0,[],[],[],z23.2))))) else ((f181 1 a2 a3 a4 a5 a6 a7).bind fun z24=>(xO a1 a2 a3 a4 a5 a6 a7 z24.1 0 [] [] [] z24.2))) else (xO a1 a2 a3 a4 a5 a6 a7 a2 a3 a4 a5 a6 a7))
theorem xP(hd:5≤d){a1 a2 a3:Int}{a4 a5 a6:S8}{a7:List aL}{r:Int×Int×S8×S8×S8×(List aL)}(hQ:FQ (DX r) Q){ko:Bool}(hS:rW a1 a2 a3 a4 a5 a6 a7 ko=some r): ∀st,au [0,1,22,1000001] [(0,.id 0),(1,.id 1)] [] st=XG a1 a2 a3 a4 a5 a6 a7 ko→ZX d Q aab [.blk 0,.seq Hg] st:=by
 intro st he
 refine ay he (sR 22 hS (fun hS=>?_) (fun hS=>?_))
 ·refine zT (aC (zS (zL 1 (sB 26 hS (fun hS=>?_) (fun hS=>?_)))))
  ·refine zK (zT (zS (zL 3 (zK (aC (zS (zL 5 (sB 33 hS (fun hS=>?_) (fun hS=>?_)))))))))
   ·exact zK (zT (a_ (zL 7 (zK (zS (zL 2 (aq hS (fun z20 nN hS=>fS 42 [0,1] (nr (aU hd rfl) nN) (zK (zS (zL 1 (aq hS (fun z21 nc hS=>fS 44 [0,1] (oZ (aU hd rfl) nc) (nL hS hQ))))))))))))))
   ·exact zK (zF (fP (cj (zS (zL 2 (aq hS (fun z22 AK hS=>fS 42 [0,1] (nr (aU hd rfl) AK) (zK (zS (zL 1 (aq hS (fun z23 xC hS=>fS 44 [0,1] (oZ (aU hd rfl) xC) (nL hS hQ)))))))))))))
  ·exact zK (zF (fP (cj (a_ (zL 1 (aq hS (fun z24 pX hS=>fS 46 [0,1] (xL (aU hd rfl) pX) (jL (Ga hd hQ hS)))))))))
 ·exact jR (Ga hd hQ hS)
def XH(a1 a2 a3:Int)(a4 a5 a6:S8)(a7:List aL)(iR:Bool):St:=⟨(up (up (up (up (up u0 1000001 .un) 16 (dB iR)) 15 (dI a2)) 1 (dI a1)) 0 (pt 0)),(up (up h0 1 ⟨1,some (.own 248 6 (bB.cells a7))⟩) 0 ⟨0,some (.box ((dI a2)::((dI a3)::((.d (.str a4))::((.d (.str a5))::((.d (.str a6))::((.r (.aJ 1 1 0 a7.length)):: [])))))))⟩)⟩
def rX(a1 a2 a3:Int)(a4 a5 a6:S8)(a7:List aL)(iR:Bool):Option (Int×Int×S8×S8×S8×(List aL)):=(bif iR then ((f178 a1 a2 a3 a4 a5 a6 a7).bind fun gy=>(some (gy.1,gy.2.1,gy.2.2.1,gy.2.2.2.1,gy.2.2.2.2.1,gy.2.2.2.2.2))) else (bif (decide (a2=8)) then (rW a1 a2 a3 a4 a5 a6 a7 true) else (bif (decide (a2=10)) then (rW a1 a2 a3 a4 a5 a6 a7 true) else (rW a1 a2 a3 a4 a5 a6 a7 false))))
theorem xQ(hd:5≤d){a1 a2 a3:Int}{a4 a5 a6:S8}{a7:List aL}{r:Int×Int×S8×S8×S8×(List aL)}(hQ:FQ (DX r) Q){iR:Bool}(hS:rX a1 a2 a3 a4 a5 a6 a7 iR=some r): ∀st,au [0,1,15,16,1000001] [(0,.id 0),(1,.id 1)] [] st=XH a1 a2 a3 a4 a5 a6 a7 iR→ZX d Q aac [.blk 0,.seq Hg] st:=by
 intro st he
 refine ay he (sR 16 hS (fun hS=>?_) (fun hS=>?_))
 ·exact zT (zS (zL 2 (aq hS (fun gy nM hS=>fS 21 [0,1] (am3 (aU hd rfl) nM) (nL hS hQ)))))
 ·refine zF (aC (zS (sB 23 hS (fun hS=>?_) (fun hS=>?_))))
  ·exact jL (xP hd hQ hS)
  ·refine zL 1 (zK (zF (a_ (sB 24 hS (fun hS=>?_) (fun hS=>?_)))))
   ·exact zL 1 (zK (xP hd hQ hS _ (by kernel_rfl)))
   ·exact jL (xP hd hQ hS)
def XI(a1 a2 a3:Int)(a4 a5 a6:S8)(a7:List aL):St:=⟨(up (up (up u0 1000001 .un) 1 (dI a1)) 0 (pt 0)),(up (up h0 1 ⟨1,some (.own 248 6 (bB.cells a7))⟩) 0 ⟨0,some (.box ((dI a2)::((dI a3)::((.d (.str a4))::((.d (.str a5))::((.d (.str a6))::((.r (.aJ 1 1 0 a7.length)):: [])))))))⟩)⟩
def JW(a1 a2 a3:Int)(a4 a5 a6:S8)(a7:List aL):Option (Int×Int×S8×S8×S8×(List aL)):=(bif (decide (a2=7)) then (rX a1 a2 a3 a4 a5 a6 a7 true) else (bif (decide (a2=9)) then (rX a1 a2 a3 a4 a5 a6 a7 true) else (rX a1 a2 a3 a4 a5 a6 a7 false)))
theorem TG(hd:5≤d){a1 a2 a3:Int}{a4 a5 a6:S8}{a7:List aL}{r:Int×Int×S8×S8×S8×(List aL)}(hQ:FQ (DX r) Q)(hS:JW a1 a2 a3 a4 a5 a6 a7=some r): ∀st,au [0,1,1000001] [(0,.id 0),(1,.id 1)] [] st=XI a1 a2 a3 a4 a5 a6 a7→ZX d Q aad [] st:=by
 intro st he
 refine ay he (aC (zS (zL 5 (zK (bz (aC (zS (sB 17 hS (fun hS=>?_) (fun hS=>?_)))))))))
 ·exact jL (xQ hd hQ hS)
 ·refine zL 1 (zK (zF (a_ (sB 18 hS (fun hS=>?_) (fun hS=>?_)))))
  ·exact zL 1 (zK (xQ hd hQ hS _ (by kernel_rfl)))
  ·exact jL (xQ hd hQ hS)
def f144(a1 a2 a3:Int)(a4 a5 a6:S8)(a7:List aL):Option (Int×Int×S8×S8×S8×(List aL)):=(bif (decide (a1<0)) then (some (a2,a3,a4,a5,a6,a7)) else (bif (decide (1114111<a1)) then (some (a2,a3,a4,a5,a6,a7)) else (JW a1 a2 a3 a4 a5 a6 a7)))
theorem am7{d:Nat}(hd:5≤d){a1 a2 a3:Int}{a4 a5 a6:S8}{a7:List aL}{r:Int×Int×S8×S8×S8×(List aL)}(hS:f144 a1 a2 a3 a4 a5 a6 a7=some r):bW av aX d 144 [(pt 0),(dI a1)] [(.box ((dI a2)::((dI a3)::((.d (.str a4))::((.d (.str a5))::((.d (.str a6))::((.r (.aJ 1 0 0 a7.length)):: []))))))),(.own 248 6 (bB.cells a7))]=some ((.bE []),[(.box ((dI r.1)::((dI r.2.1)::((.d (.str r.2.2.1))::((.d (.str r.2.2.2.1))::((.d (.str r.2.2.2.2.1))::((.r (.aJ 1 0 0 r.2.2.2.2.2.length)):: []))))))),(.own 248 6 (bB.cells r.2.2.2.2.2))]):=by
 refine cL DX hd (fun Q hQ=>?_) aeh
 refine aC (zS (zL 1 (sB 6 hS (fun hS=>?_) (fun hS=>?_))))
 ·exact nL hS hQ
 ·refine zL 2 (sB 9 hS (fun hS=>?_) (fun hS=>?_))
  ·exact nL hS hQ
  ·exact jL (TG hd hQ hS)
/- farwriter/parse.Feed -/
def agc(LY:aR)(pQ:List aL)(mO:Int):St:=⟨(up (up (up u0 6 (dI mO)) 5 (.r (.aJ 338 0 0 pQ.length))) 4 (pt 40)),(up (up h0 338 ⟨0,some (.own 248 6 (bB.cells pQ))⟩) 40 ⟨0,some (.box (BO LY))⟩)⟩
theorem NV{LY:aR}{pQ:List aL}{mO:Int}:cP (agc LY pQ mO) 0 SE.res=some ((.bE [(.agg (BO LY)),(.r (.own 0 248 6 pQ.length (bB.cells pQ))),(dI mO)]),[]):=by
 exact iN (ids:= []) (ids':= [338]) (l:= [(.agg (BO LY)),(.r (.aJ 338 0 0 pQ.length)),(dI mO)]) (by kernel_rfl) (by kernel_rfl) (BL (aN rfl (aN (gX bB (e:=248) (k:=6) (xs:=pQ) (by kernel_rfl) rfl rfl rfl rfl) (aN rfl mW))))
def QK(r:aR×(List aL)×Int)(e:PX)(st:St):Prop:=aV SE 0 ((.bE [(.agg (BO r.1)),(.r (.own 0 248 6 r.2.1.length (bB.cells r.2.1))),(dI r.2.2)]),[]) e st
def XJ(a1:aR)(a2:List Int)(fe gP:Int)(iC iD eF:S8)(ic:List aL):St:=⟨(up (up u0 8 (pt 160)) 4 (pt 40)),(up (up (up h0 337 ⟨0,some (.own 248 6 (bB.cells ic))⟩) 160 ⟨0,some (.box ((dI fe)::((dI gP)::((.d (.str iC))::((.d (.str iD))::((.d (.str eF))::((.r (.aJ 337 0 0 ic.length)):: [])))))))⟩) 40 ⟨0,some (.box C6)⟩)⟩
def JX(a1:aR)(a2:List Int)(fe gP:Int)(iC iD eF:S8)(ic:List aL):Option (aR×(List aL)×Int):=(some ((aR.mk fe gP iC iD eF),ic,0))
theorem TH(hd:6≤d){a1:aR}{a2:List Int}{r:aR×(List aL)×Int}(hQ:FQ (QK r) Q){fe gP:Int}{iC iD eF:S8}{ic:List aL}(hS:JX a1 a2 fe gP iC iD eF ic=some r): ∀st,au [4,8] [(40,.id 40),(160,.id 160),(337,.id 337)] [] st=XJ a1 a2 fe gP iC iD eF ic→ZX d Q aai [] st:=by
 intro st he
 exact ay he (aC (cC (cy 11 (fL (cj (cM (bk (eA hS hQ (fR NV)))))))))
def XK(a1:aR)(a2:List Int)(x:Int×Int×S8×S8×S8×(List aL)×Int):St:=⟨(up (up (up (up (up u0 22 (dI x.2.2.2.2.2.2)) 21 (dI (a2.length:Int))) 20 (dL a2)) 8 (pt 160)) 4 (pt 40)),(up (up (up h0 337 ⟨0,some (.own 248 6 (bB.cells x.2.2.2.2.2.1))⟩) 160 ⟨0,some (.box ((dI x.1)::((dI x.2.1)::((.d (.str x.2.2.1))::((.d (.str x.2.2.2.1))::((.d (.str x.2.2.2.2.1))::((.r (.aJ 337 0 0 x.2.2.2.2.2.1.length)):: [])))))))⟩) 40 ⟨0,some (.box C6)⟩)⟩
def rY(a1:aR)(a2:List Int)(x:Int×Int×S8×S8×S8×(List aL)×Int)(st:St):Prop:=au [4,8,20,21,22] [(40,.id 40),(160,.id 160),(337,(.cell 160 5))] [.cell 160 5 337 248 6] st=XK a1 a2 x
def A_(a1:aR)(a2:List Int)(uk kQ:Int)(dZ gj Ce:S8)(qp:List aL):St:=⟨(up (up u0 8 (pt 160)) 4 (pt 40)),(up (up (up h0 337 ⟨0,some (.own 248 6 (bB.cells qp))⟩) 160 ⟨0,some (.box ((dI uk)::((dI kQ)::((.d (.str dZ))::((.d (.str gj))::((.d (.str Ce))::((.r (.aJ 337 0 0 qp.length)):: [])))))))⟩) 40 ⟨0,some (.box C6)⟩)⟩
def vO(a1:aR)(a2:List Int)(z:(Int×Int×S8×S8×S8×(List aL)))(e:PX)(st:St):Prop:=e= .exit 0∧st=A_ a1 a2 z.1 z.2.1 z.2.2.1 z.2.2.2.1 z.2.2.2.2.1 z.2.2.2.2.2
def LZ(a1:aR)(a2:List Int)(Cc vD:Int)(uA Fc Fe:S8)(XL:List aL)(QL:Int):St:=⟨(up (up (up (up (up u0 22 (dI QL)) 21 (dI (a2.length:Int))) 20 (dL a2)) 8 (pt 160)) 4 (pt 40)),(up (up (up h0 337 ⟨0,some (.own 248 6 (bB.cells XL))⟩) 160 ⟨0,some (.box ((dI Cc)::((dI vD)::((.d (.str uA))::((.d (.str Fc))::((.d (.str Fe))::((.r (.aJ 337 0 0 XL.length)):: [])))))))⟩) 40 ⟨0,some (.box C6)⟩)⟩
def xR(a1:aR)(a2:List Int)(Cc vD:Int)(uA Fc Fe:S8)(XL:List aL)(QL:Int):Option ((Int×Int×S8×S8×S8×(List aL)×Int)⊕((Int×Int×S8×S8×S8×(List aL)))):=((idx a2 QL).bind fun z9=>((f144 z9 Cc vD uA Fc Fe XL).bind fun dG=>(some (.inl (dG.1,dG.2.1,dG.2.2.1,dG.2.2.2.1,dG.2.2.2.2.1,dG.2.2.2.2.2,(IntKind.i64.wrap (QL+1)))))))
theorem JY(hd:6≤d){a1:aR}{a2:List Int}{r:(Int×Int×S8×S8×S8×(List aL)×Int)⊕((Int×Int×S8×S8×S8×(List aL)))}(hQ:FQ (bG (rY a1 a2) (vO a1 a2) r) Q){Cc vD:Int}{uA Fc Fe:S8}{XL:List aL}{QL:Int}(hS:xR a1 a2 Cc vD uA Fc Fe XL QL=some r): ∀st,au [4,8,20,21,22] [(40,.id 40),(160,.id 160),(337,.id 337)] [] st=LZ a1 a2 Cc vD uA Fc Fe XL QL→ZX d Q aaf [] st:=by
 intro st he
 exact ay he (aC (bz (zS (aq hS (fun z9 jI hS=>zO (v:=(.cD (eI.enc z9++(eI.cells (a2.drop ((QL:Int).toNat+1)))))) (aD:= []) (some 24) (.jz 3 1 (tm 20) (tm 22)) (fQ eI (kk:= .i64) (xs:=a2) (j:=QL) (by kernel_rfl) (by kernel_rfl) jI rfl (by intro h;cases h)) (zL 2 (zK (a_ (zL 2 (aq hS (fun dG jF hS=>fS 28 [160,337] (am7 (aU hd rfl) jF) (lL hS hQ))))))))))))
def L1(a1:aR)(a2:List Int)(eX fV:Int)(jy iR ir:S8)(Ao:List aL)(ko:Int)(GX:Bool):St:=⟨(up (up (up (up (up (up u0 23 (dB GX)) 22 (dI ko)) 21 (dI (a2.length:Int))) 20 (dL a2)) 8 (pt 160)) 4 (pt 40)),(up (up (up h0 337 ⟨0,some (.own 248 6 (bB.cells Ao))⟩) 160 ⟨0,some (.box ((dI eX)::((dI fV)::((.d (.str jy))::((.d (.str iR))::((.d (.str ir))::((.r (.aJ 337 0 0 Ao.length)):: [])))))))⟩) 40 ⟨0,some (.box C6)⟩)⟩
def o6(a1:aR)(a2:List Int)(eX fV:Int)(jy iR ir:S8)(Ao:List aL)(ko:Int)(GX:Bool):Option ((Int×Int×S8×S8×S8×(List aL)×Int)⊕((Int×Int×S8×S8×S8×(List aL)))):=(bif GX then (xR a1 a2 eX fV jy iR ir Ao ko) else (some (.inr (eX,fV,jy,iR,ir,Ao))))
theorem xS(hd:6≤d){a1:aR}{a2:List Int}{r:(Int×Int×S8×S8×S8×(List aL)×Int)⊕((Int×Int×S8×S8×S8×(List aL)))}(hQ:FQ (bG (rY a1 a2) (vO a1 a2) r) Q){eX fV:Int}{jy iR ir:S8}{Ao:List aL}{ko:Int}{GX:Bool}(hS:o6 a1 a2 eX fV jy iR ir Ao ko GX=some r): ∀st,au [4,8,20,21,22,23] [(40,.id 40),(160,.id 160),(337,.id 337)] [] st=L1 a1 a2 eX fV jy iR ir Ao ko GX→ZX d Q aag [] st:=by
 intro st he
 refine ay he (aC (sR 23 hS (fun hS=>?_) (fun hS=>?_)))
 ·exact jR (JY hd hQ hS)
 ·exact zF (ay (J:=A_ a1 a2 eX fV jy iR ir Ao) (by kernel_rfl) (dh (cY (bk (jA hS hQ)))))
def xT(a1:aR)(a2:List Int)(x:Int×Int×S8×S8×S8×(List aL)×Int):Option ((Int×Int×S8×S8×S8×(List aL)×Int)⊕((Int×Int×S8×S8×S8×(List aL)))):=(bif (decide (x.2.2.2.2.2.2<(a2.length:Int))) then (o6 a1 a2 x.1 x.2.1 x.2.2.1 x.2.2.2.1 x.2.2.2.2.1 x.2.2.2.2.2.1 x.2.2.2.2.2.2 true) else (o6 a1 a2 x.1 x.2.1 x.2.2.1 x.2.2.2.1 x.2.2.2.2.1 x.2.2.2.2.2.1 x.2.2.2.2.2.2 false))
theorem TI(hd:6≤d){a1:aR}{a2:List Int}{r:(Int×Int×S8×S8×S8×(List aL)×Int)⊕((Int×Int×S8×S8×S8×(List aL)))}(hQ:FQ (bG (rY a1 a2) (vO a1 a2) r) Q){x:Int×Int×S8×S8×S8×(List aL)×Int}(hS:xT a1 a2 x=some r)(he:rY a1 a2 x st):ZX d Q aah [] st:=by
 refine ay he (zS (sB 23 hS (fun hS=>?_) (fun hS=>?_)))
 ·exact zK (xS hd hQ hS _ (by kernel_rfl))
 ·exact jL (xS hd hQ hS)
def XM(a1:aR)(a2:List Int):St:=⟨(up (up (up u0 4 (pt 40)) 2 (pt 24)) 1 (dL a2)),(up (up h0 40 ⟨0,some (.box C6)⟩) 24 ⟨0,some (.box (BO a1))⟩)⟩
def JZ(a1:aR)(a2:List Int):Option (aR×(List aL)×Int):=((b9 (xT a1 a2) (a1.State,a1.Mark,a1.Inter,a1.Args,a1.Text,[],0)).bind fun cS=>(JX a1 a2 cS.1 cS.2.1 cS.2.2.1 cS.2.2.2.1 cS.2.2.2.2.1 cS.2.2.2.2.2))
theorem TJ(hd:6≤d){a1:aR}{a2:List Int}{r:aR×(List aL)×Int}(hQ:FQ (QK r) Q)(hS:JZ a1 a2=some r): ∀st,au [1,2,4] [(24,.id 24),(40,.id 40)] [] st=XM a1 a2→ZX d Q aaj [] st:=by
 intro st he
 refine ay he (zS (zL 4 (zK (aC (zS (zL 3 (zK (bz (aq hS (fun cS kf hS=>dN (rY a1 a2) (vO a1 a2) (fun x st r Q h0 hS hQ=>TI hd hQ hS h0) (x:=(a1.State,a1.Mark,a1.Inter,a1.Args,a1.Text,[],0)) (z:=cS) (by show au _ _ _ _=_;kernel_rfl) kf ?_))))))))))
 intro e bl _ hX
 obtain ⟨rfl,rfl⟩:_∧_:=hX
 exact jK (TH hd hQ hS)
def f107(a1:aR)(a2:List Int):Option (aR×(List aL)×Int):=((f21 a1).bind fun z12=>(bif (!decide (z12=0)) then (some (a1,[],z12)) else (JZ a1 a2)))
theorem am8{d:Nat}(hd:6≤d){a1:aR}{a2:List Int}{r:aR×(List aL)×Int}(hS:f107 a1 a2=some r):bW av aX d 107 [(.agg (BO a1)),(dL a2)] []=some ((.bE [(.agg (BO r.1)),(.r (.own 0 248 6 r.2.1.length (bB.cells r.2.1))),(dI r.2.2)]),[]):=by
 refine cL QK hd (fun Q hQ=>?_) ad_
 refine zS (zL 4 (zK (aC (zS (zL 1 (aq hS (fun z12 gO hS=>zC 12 (ab8 (aU hd rfl) gO) (zL 1 (zK (zS (zL 1 (sB 14 hS (fun hS=>?_) (fun hS=>?_)))))))))))))
 ·exact zK (zT (zS (zL 5 (zK (cM (bP (bk (eA hS hQ (fR NV)))))))))
 ·exact jL (TJ hd hQ hS)
/- farwriter/screen.actions$1 -/
def auk(r:Bool)(e:PX)(st:St):Prop:=aV aak 0 ((dB r),[]) e st
def f186(a1:Int):Option (Bool):=((f58 a1 (-1) 16383).bind fun z2=>(some (!z2)))
theorem am_{d:Nat}(hd:2≤d){a1:Int}{r:Bool}(hS:f186 a1=some r):bW av aX d 186 [(dI a1)] []=some ((dB r),[]):=by
 refine cL auk hd (fun Q hQ=>?_) aev
 exact zS (zL 1 (zK (zS (zL 1 (aq hS (fun z2 hz2 hS=>zC 4 (qm (aU hd rfl) hz2) (nL hS hQ)))))))
/- slices.IndexFunc[[]int,int] -/
def NW(p8:Int):St:=⟨(up u0 4 (dI p8)),h0⟩
theorem agd{p8:Int}:cP (NW p8) 0 Jg.res=some ((dI p8),[]):=by
 kernel_rfl
def aul(r:Int)(e:PX)(st:St):Prop:=aV Jg 0 ((dI r),[]) e st
def XN(a1:List Int)(x:Int):St:=⟨(up (up (up (up u0 8 (dI x)) 7 (dI (a1.length:Int))) 1 (.fn 186 [])) 0 (dL a1)),h0⟩
def rZ(a1:List Int)(x:Int)(st:St):Prop:=au [0,1,7,8] [] [] st=XN a1 x
def Ba(a1:List Int):St:=⟨u0,h0⟩
def vP(a1:List Int)(z:Unit⊕Int)(e:PX)(st:St):Prop:=(match z with | .inl z=>e= .exit 0∧st=Ba a1 | .inr z=>e= .ret∧dY Jg.fin st=NW z)
def L3(a1:List Int)(gq:Int):St:=⟨(up (up (up (up u0 8 (dI gq)) 7 (dI (a1.length:Int))) 1 (.fn 186 [])) 0 (dL a1)),h0⟩
def xU(a1:List Int)(gq:Int):Option (Int⊕(Unit⊕Int)):=((idx a1 gq).bind fun z7=>((f186 z7).bind fun z8=>(bif z8 then (some (.inr (.inr gq))) else (some (.inl (IntKind.i64.wrap (gq+1)))))))
theorem J0(hd:3≤d){a1:List Int}{r:Int⊕(Unit⊕Int)}(hQ:FQ (bG (rZ a1) (vP a1) r) Q){gq:Int}(hS:xU a1 gq=some r): ∀st,au [0,1,7,8] [] [] st=L3 a1 gq→ZX d Q aal [] st:=by
 intro st he
 refine ay he (aC (bz (zS (zL 2 (zK (zS (zL 3 (aq hS (fun z7 l8 hS=>zO (v:=(.cD (eI.enc z7++(eI.cells (a1.drop ((gq:Int).toNat+1)))))) (aD:= []) (some 14) (.jz 3 1 (tm 12) (tm 13)) (fQ eI (kk:= .i64) (xs:=a1) (j:=gq) (by kernel_rfl) (by kernel_rfl) l8 rfl (by intro h;cases h)) (zL 1 (aq hS (fun z8 je hS=>zO (v:=(dB z8)) (aD:= []) (some 16) (.lU (tm 11) [(tm 15)]) (qC (f:=186) (cs:= []) (by kernel_rfl) (args:= [(dI z7)]) (l:= [(dI z7)]) (r:=(dB z8)) (by kernel_rfl) (by kernel_rfl) (am_ (aU hd rfl) je) (by kernel_rfl) (by kernel_rfl) (by kernel_rfl)) (zK (sR 16 hS (fun hS=>?_) (fun hS=>?_)))))))))))))))
 ·exact zT (zS (zL 2 (zK (cM (cr (bP (bk (mX hS hQ))))))))
 ·exact lR hS hQ
def L4(a1:List Int)(mZ:Int)(uh:Bool):St:=⟨(up (up (up (up (up u0 9 (dB uh)) 8 (dI mZ)) 7 (dI (a1.length:Int))) 1 (.fn 186 [])) 0 (dL a1)),h0⟩
def o7(a1:List Int)(mZ:Int)(uh:Bool):Option (Int⊕(Unit⊕Int)):=(bif uh then (xU a1 mZ) else (some (.inr (.inl ()))))
theorem xV(hd:3≤d){a1:List Int}{r:Int⊕(Unit⊕Int)}(hQ:FQ (bG (rZ a1) (vP a1) r) Q){mZ:Int}{uh:Bool}(hS:o7 a1 mZ uh=some r): ∀st,au [0,1,7,8,9] [] [] st=L4 a1 mZ uh→ZX d Q aam [] st:=by
 intro st he
 refine ay he (aC (sR 9 hS (fun hS=>?_) (fun hS=>?_)))
 ·exact jR (J0 hd hQ hS)
 ·exact zF (ay (J:=Ba a1) (by kernel_rfl) (dh (cY (bk (jA hS hQ)))))
def xW(a1:List Int)(x:Int):Option (Int⊕(Unit⊕Int)):=(bif (decide (x<(a1.length:Int))) then (o7 a1 x true) else (o7 a1 x false))
theorem TK(hd:3≤d){a1:List Int}{r:Int⊕(Unit⊕Int)}(hQ:FQ (bG (rZ a1) (vP a1) r) Q){x:Int}(hS:xW a1 x=some r)(he:rZ a1 x st):ZX d Q aan [] st:=by
 refine ay he (zS (sB 9 hS (fun hS=>?_) (fun hS=>?_)))
 ·exact zK (xV hd hQ hS _ (by kernel_rfl))
 ·exact jL (xV hd hQ hS)
def f210(a1:List Int):Option (Int):=((b9 (xW a1) 0).bind fun z9=>(Sum.elim (fun dG=>(some (-1))) (fun cS=>(some cS)) z9))
theorem ana{d:Nat}(hd:3≤d){a1:List Int}{r:Int}(hS:f210 a1=some r):bW av aX d 210 [(dL a1),(.fn 186 [])] []=some ((dI r),[]):=by
 refine cL aul hd (fun Q hQ=>?_) aeE
 refine zS (zL 1 (zK (aC (zS (zL 3 (zK (bz (aq hS (fun z9 jI hS=>dN (rZ a1) (vP a1) (fun x st r Q h0 hS hQ=>TK hd hQ hS h0) (x:=0) (z:=z9) (by show au _ _ _ _=_;kernel_rfl) jI ?_)))))))))
 rcases z9 with dG | cS
 ·replace hS:=(show _=_ from hS)
  simp only [ua] at hS
  intro e bl _ hX
  obtain ⟨rfl,rfl⟩:_∧_:=hX
  exact nK hS hQ
 ·simp only [ud] at hS
  intro e bl _ hX
  obtain ⟨rfl,hX⟩:_∧_:=hX
  exact cr (bP (bk (eA hS hQ (jv (by kernel_rfl) ((congrArg (fun s=>cP s 0 Jg.res) hX).trans agd)))))
/- slices.ContainsFunc[[]int,int] -/
def aum(r:Bool)(e:PX)(st:St):Prop:=aV aao 0 ((dB r),[]) e st
def f185(a1:List Int):Option (Bool):=((f210 a1).bind fun z2=>(bif (decide (0≤z2)) then (some true) else (some false)))
theorem anb{d:Nat}(hd:4≤d){a1:List Int}{r:Bool}(hS:f185 a1=some r):bW av aX d 185 [(dL a1),(.fn 186 [])] []=some ((dB r),[]):=by
 refine cL aum hd (fun Q hQ=>?_) aeu
 refine zS (zL 1 (zK (zS (zL 2 (aq hS (fun z2 hz2 hS=>zC 7 (ana (aU hd rfl) hz2) (sB 8 hS (fun hS=>?_) (fun hS=>?_))))))))
 ·exact nL hS hQ
 ·exact nL hS hQ
/- farwriter/screen.actions -/
def NX(pR:Int):St:=⟨(up u0 2 (dI pR)),h0⟩
theorem age{pR:Int}:cP (NX pR) 0 Jh.res=some ((dI pR),[]):=by
 kernel_rfl
def aun(r:Int)(e:PX)(st:St):Prop:=aV Jh 0 ((dI r),[]) e st
def XO(a1:List aL)(x:Int):St:=⟨(up (up (up u0 7 (dI x)) 6 (dI (a1.length:Int))) 5 (dE bB a1)),h0⟩
def r_(a1:List aL)(x:Int)(st:St):Prop:=au [5,6,7] [] [] st=XO a1 x
def Bb(a1:List aL):St:=⟨u0,h0⟩
def vQ(a1:List aL)(z:Unit⊕Int)(e:PX)(st:St):Prop:=(match z with | .inl z=>e= .exit 0∧st=Bb a1 | .inr z=>e= .ret∧dY Jh.fin st=NX z)
def L5(a1:List aL)(iu:Int):St:=⟨(up (up (up u0 7 (dI iu)) 6 (dI (a1.length:Int))) 5 (dE bB a1)),h0⟩
def xX(a1:List aL)(iu:Int):Option (Int⊕(Unit⊕Int)):=((idx a1 iu).bind fun z7=>(bif (decide (32<(z7.Args.length:Int))) then (some (.inr (.inr 1))) else (bif (decide (256<(z7.Text.length:Int))) then (some (.inr (.inr 1))) else ((f185 z7.Args).bind fun z8=>(bif z8 then (some (.inr (.inr 1))) else (some (.inl (IntKind.i64.wrap (iu+1)))))))))
theorem J1(hd:5≤d){a1:List aL}{r:Int⊕(Unit⊕Int)}(hQ:FQ (bG (r_ a1) (vQ a1) r) Q){iu:Int}(hS:xX a1 iu=some r): ∀st,au [5,6,7] [] [] st=L5 a1 iu→ZX d Q aap [] st:=by
 intro st he
 refine ay he (aC (bz (zS (aq hS (fun z7 l8 hS=>zO (v:=(.cD (bB.enc z7++(bB.cells (a1.drop ((iu:Int).toNat+1)))))) (aD:= []) (some 9) (.jz 248 6 (tm 5) (tm 7)) (fQ bB (kk:= .i64) (xs:=a1) (j:=iu) (by kernel_rfl) (by kernel_rfl) l8 rfl (by intro h;cases h)) (zL 3 (zK (zS (zL 3 (sB 14 hS (fun hS=>?_) (fun hS=>?_)))))))))))
 ·exact zL 11 (zK (zT (zS (zL 1 (zK (cM (cr (bP (bk (mX hS hQ))))))))))
 ·refine zL 4 (sB 19 hS (fun hS=>?_) (fun hS=>?_))
  ·exact zL 6 (zK (zT (zS (zL 1 (zK (cM (cr (bP (bk (mX hS hQ))))))))))
  ·refine zL 4 (aq hS (fun z8 je hS=>zG (some 24) 21 false (.call 185 [(tm 23),(.func 186)]) (bX (anb (aU hd rfl) je)) (zL 1 (zK (sR 25 hS (fun hS=>?_) (fun hS=>?_))))))
   ·exact zT (zS (zL 1 (zK (cM (cr (bP (bk (mX hS hQ))))))))
   ·exact lR hS hQ
def L6(a1:List aL)(jB:Int)(mN:Bool):St:=⟨(up (up (up (up u0 8 (dB mN)) 7 (dI jB)) 6 (dI (a1.length:Int))) 5 (dE bB a1)),h0⟩
def o8(a1:List aL)(jB:Int)(mN:Bool):Option (Int⊕(Unit⊕Int)):=(bif mN then (xX a1 jB) else (some (.inr (.inl ()))))
theorem xY(hd:5≤d){a1:List aL}{r:Int⊕(Unit⊕Int)}(hQ:FQ (bG (r_ a1) (vQ a1) r) Q){jB:Int}{mN:Bool}(hS:o8 a1 jB mN=some r): ∀st,au [5,6,7,8] [] [] st=L6 a1 jB mN→ZX d Q aaq [] st:=by
 intro st he
 refine ay he (aC (sR 8 hS (fun hS=>?_) (fun hS=>?_)))
 ·exact jR (J1 hd hQ hS)
 ·exact zF (ay (J:=Bb a1) (by kernel_rfl) (dh (cY (bk (jA hS hQ)))))
def DY(a1:List aL)(x:Int):Option (Int⊕(Unit⊕Int)):=(bif (decide (x<(a1.length:Int))) then (o8 a1 x true) else (o8 a1 x false))
theorem TL(hd:5≤d){a1:List aL}{r:Int⊕(Unit⊕Int)}(hQ:FQ (bG (r_ a1) (vQ a1) r) Q){x:Int}(hS:DY a1 x=some r)(he:r_ a1 x st):ZX d Q aar [] st:=by
 refine ay he (zS (sB 8 hS (fun hS=>?_) (fun hS=>?_)))
 ·exact zK (xY hd hQ hS _ (by kernel_rfl))
 ·exact jL (xY hd hQ hS)
def f145(a1:List aL):Option (Int):=((b9 (DY a1) 0).bind fun z9=>(Sum.elim (fun dG=>(some 0)) (fun cS=>(some cS)) z9))
theorem anc{d:Nat}(hd:5≤d){a1:List aL}{r:Int}(hS:f145 a1=some r):bW av aX d 145 [(dE bB a1)] []=some ((dI r),[]):=by
 refine cL aun hd (fun Q hQ=>?_) aei
 refine zS (zL 1 (zK (aC (zS (zL 3 (zK (bz (aq hS (fun z9 jI hS=>dN (r_ a1) (vQ a1) (fun x st r Q h0 hS hQ=>TL hd hQ hS h0) (x:=0) (z:=z9) (by show au _ _ _ _=_;kernel_rfl) jI ?_)))))))))
 rcases z9 with dG | cS
 ·replace hS:=(show _=_ from hS)
  simp only [ua] at hS
  intro e bl _ hX
  obtain ⟨rfl,rfl⟩:_∧_:=hX
  exact nK hS hQ
 ·simp only [ud] at hS
  intro e bl _ hX
  obtain ⟨rfl,hX⟩:_∧_:=hX
  exact cr (bP (bk (eA hS hQ (jv (by kernel_rfl) ((congrArg (fun s=>cP s 0 Jh.res) hX).trans age)))))
end
end Go.Proofs.YtimbfadnabfabaaGreatDoor.Pm
