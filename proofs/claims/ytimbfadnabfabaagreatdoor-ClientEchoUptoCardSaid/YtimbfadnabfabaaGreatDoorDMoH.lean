/- Typed functions, and that the codes are these. Printed by dec.py. -/
import Derived.Test.YtimbfadnabfabaaGreatDoorDMoG
namespace Go.Proofs.YtimbfadnabfabaaGreatDoor.Pm
noncomputable section
set_option maxRecDepth 1000000
set_option maxHeartbeats 20000000
set_option linter.unusedVariables false
set_option linter.unusedSimpArgs false
variable {d : Nat} {Q : PQ} {st : St}
/- farwriter/utf.Feed -/
def OH(H6:S8)(C0:List Int)(wY:Int):St:=⟨(up (up (up u0 6 (dI wY)) 5 (.r (.aL 593 0 0 C0.length))) 4 (.d (.str H6))),(up h0 593 ⟨0,some (.own 3 1 (eI.cells C0))⟩)⟩
theorem F8{H6:S8}{C0:List Int}{wY:Int}:cN (OH H6 C0 wY) 0 Ka.res=some ((.bH [(.d (.str H6)),(.r (.own 0 3 1 C0.length (eI.cells C0))),(dI wY)]),[]):=by
 exact iP (ids:= []) (ids':= [593]) (l:= [(.d (.str H6)),(.r (.aL 593 0 0 C0.length)),(dI wY)]) (by kernel_rfl) (by kernel_rfl) (CO (aO rfl (aO (g_ eI (e:=3) (k:=1) (xs:=C0) (by kernel_rfl) rfl rfl rfl rfl) (aO rfl nH))))
def aea(r:S8×(List Int)×Int)(e:PX)(st:St):Prop:=aU Ka 0 ((.bH [(.d (.str r.1)),(.r (.own 0 3 1 r.2.1.length (eI.cells r.2.1))),(dI r.2.2)]),[]) e st
def X9(a1 a2:S8)(x:S8×(List Int)):St:=⟨(up (up u0 8 (.r (.aL 72 0 0 x.2.length))) 1 (.d (.str x.1))),(up h0 72 ⟨0,some (.own 3 1 (eI.cells x.2))⟩)⟩
def pq(a1 a2:S8)(x:S8×(List Int))(st:St):Prop:=au [1,8] [(72,.id 72)] [] st=X9 a1 a2 x
def B5(a1 a2:S8)(ayD:List Int):St:=⟨(up u0 8 (.r (.aL 72 0 0 ayD.length))),(up h0 72 ⟨0,some (.own 3 1 (eI.cells ayD))⟩)⟩
def sQ(a1 a2:S8)(z:((List Int))⊕(S8×(List Int)×Int))(e:PX)(st:St):Prop:=(match z with | .inl z=>e= .exit 0∧st=B5 a1 a2 z | .inr z=>e= .ret∧dV Ka.fin st=OH z.1 z.2.1 z.2.2)
def ME(a1 a2 Ez:S8)(EA:List Int)(zb:Int):St:=⟨(up (up (up u0 9 (dI zb)) 8 (.r (.aL 72 0 0 EA.length))) 1 (.d (.str Ez))),(up h0 72 ⟨0,some (.own 3 1 (eI.cells EA))⟩)⟩
def qf(a1 a2 Ez:S8)(EA:List Int)(zb:Int):Option ((S8×(List Int))⊕(((List Int))⊕(S8×(List Int)×Int))):=((eP 8 EA ([65533]:List Int)).bind fun qD=>((qL Ez (if 1>zb then 1 else zb) (Ez.length:Int)).bind fun HY=>(some (.inl (HY,qD)))))
theorem ze(hd:4≤d){a1 a2:S8}{r:(S8×(List Int))⊕(((List Int))⊕(S8×(List Int)×Int))}(hQ:FQ (bG (pq a1 a2) (sQ a1 a2) r) Q){Ez:S8}{EA:List Int}{zb:Int}(hS:qf a1 a2 Ez EA zb=some r): ∀st,au [1,8,9] [(72,.id 72)] [] st=ME a1 a2 Ez EA zb→ZX d Q aaz [.blk 2,.seq aaA,.blk 1] st:=by
 intro st he
 refine av he ?_
 unfold qf at hS
 exact a_ (zL 2 (aq hS (fun qD Om hS=>zO (v:=(.r (.aL 72 1 0 qD.length))) (aD:= [(72,⟨1,some (.own 3 1 (eI.cells qD))⟩)]) (some 41) (.app 3 1 8 (tm 39) (tm 40)) (eM eI (b:=72) (g:=0) (n:=EA.length) (xs:=EA) (ys:= [65533]) ((congrArg (fP _) (by kernel_rfl:b8 _ (.tmp 40)=(.r (.aL 328 1 0 (([65533]:List Int).length))))).trans (cZ eI (e:=3) (k:=1) (xs:= [65533]) (by kernel_rfl) rfl rfl)) rfl (by kernel_rfl) rfl (by kernel_rfl) rfl Om) (zL 1 (zE (rW (cq (a_ (zL 3 (aq hS (fun HY TL hS=>zO (v:=(.d (.str HY))) (aD:= []) (some 68) (.wu (tm 65) (.some (tm 67)) .none) (FP (s:=Ez) (a:=(if 1>zb then 1 else zb)) (c:=(Ez.length:Int)) (by kernel_rfl) (mD _ (kk:= .i64) (j:=(if 1>zb then 1 else zb)) (by kernel_rfl)) (CK _) TL) (lL hS hQ))))))))))))
def MF(a1 a2 sS:S8)(yc:List Int):St:=⟨(up (up u0 8 (.r (.aL 72 0 0 yc.length))) 1 (.d (.str sS))),(up h0 72 ⟨0,some (.own 3 1 (eI.cells yc))⟩)⟩
def mW(a1 a2 sS:S8)(yc:List Int):Option ((S8×(List Int))⊕(((List Int))⊕(S8×(List Int)×Int))):=((f53 sS).bind fun z64=>(bif z64.2 then ((iL sS).bind fun zf=>((eP 8 yc ([(IntKind.i64.wrap (zf.1))]:List Int)).bind fun z66=>((qL sS (if 1>z64.1 then 1 else z64.1) (sS.length:Int)).bind fun z67=>(some (.inl (z67,z66)))))) else (bif (decide (0<z64.1)) then (bif (decide (z64.1=(sS.length:Int))) then (some (.inr (.inr (sS,yc,0)))) else (qf a1 a2 sS yc z64.1)) else (qf a1 a2 sS yc z64.1))))
theorem KO(hd:4≤d){a1 a2:S8}{r:(S8×(List Int))⊕(((List Int))⊕(S8×(List Int)×Int))}(hQ:FQ (bG (pq a1 a2) (sQ a1 a2) r) Q){sS:S8}{yc:List Int}(hS:mW a1 a2 sS yc=some r): ∀st,au [1,8] [(72,.id 72)] [] st=MF a1 a2 sS yc→ZX d Q aaB [.blk 1] st:=by
 intro st he
 refine av he ?_
 unfold mW at hS
 refine zS (zL 1 (aq hS (fun z64 aeb hS=>zC 36 (adS (aV hd rfl) aeb) (zL 5 (zK (aC (bw (zS (zL 2 (zK (sR 42 hS (fun hS=>?_) (fun hS=>?_))))))))))))
 ·exact zT (zS (zL 1 (aq hS (fun zf ayE hS=>zC 46 (Ey (aV hd rfl) ayE) (zL 5 (zK (a_ (zL 4 (aq hS (fun z66 apL hS=>zO (v:=(.r (.aL 72 1 0 z66.length))) (aD:= [(72,⟨1,some (.own 3 1 (eI.cells z66))⟩)]) (some 53) (.app 3 1 8 (tm 49) (tm 52)) (eM eI (b:=72) (g:=0) (n:=yc.length) (xs:=yc) (ys:= [(IntKind.i64.wrap (zf.1))]) ((congrArg (fP _) (by kernel_rfl:b8 _ (.tmp 52)=(.r (.aL 424 1 0 (([(IntKind.i64.wrap (zf.1))]:List Int).length))))).trans (cZ eI (e:=3) (k:=1) (xs:= [(IntKind.i64.wrap (zf.1))]) (by kernel_rfl) rfl rfl)) rfl (by kernel_rfl) rfl (by kernel_rfl) rfl apL) (zL 1 (zE (rW (cq (a_ (zL 3 (aq hS (fun z67 TK hS=>zO (v:=(.d (.str z67))) (aD:= []) (some 68) (.wu (tm 65) (.some (tm 67)) .none) (FP (s:=sS) (a:=(if 1>z64.1 then 1 else z64.1)) (c:=(sS.length:Int)) (by kernel_rfl) (mD _ (kk:= .i64) (j:=(if 1>z64.1 then 1 else z64.1)) (by kernel_rfl)) (CK _) TK) (lL hS hQ)))))))))))))))))))
 ·refine zF (zS (zL 1 (sB 56 hS (fun hS=>?_) (fun hS=>?_))))
  ·refine zL 4 (sB 61 hS (fun hS=>?_) (fun hS=>?_))
   ·exact zL 2 (zK (zT (zS (zL 5 (zK (cL (cj (bQ (cj (bg (mG hS hQ)))))))))))
   ·exact zL 2 (zK (zF (ze hd hQ hS _ (by kernel_rfl))))
  ·exact jL (ze hd hQ hS)
def MG(a1 a2 tV:S8)(B6:List Int):St:=⟨(up (up u0 8 (.r (.aL 72 0 0 B6.length))) 1 (.d (.str tV))),(up h0 72 ⟨0,some (.own 3 1 (eI.cells B6))⟩)⟩
def kU(a1 a2 tV:S8)(B6:List Int):Option ((S8×(List Int))⊕(((List Int))⊕(S8×(List Int)×Int))):=((idx tV 0).bind fun XB=>(bif (decide ((XB.toNat:Int)<128)) then ((idx tV 0).bind fun z72=>((eP 8 B6 ([(z72.toNat:Int)]:List Int)).bind fun TM=>((qL tV 1 (tV.length:Int)).bind fun XC=>(some (.inl (XC,TM)))))) else (mW a1 a2 tV B6)))
theorem KP(hd:4≤d){a1 a2:S8}{r:(S8×(List Int))⊕(((List Int))⊕(S8×(List Int)×Int))}(hQ:FQ (bG (pq a1 a2) (sQ a1 a2) r) Q){tV:S8}{B6:List Int}(hS:kU a1 a2 tV B6=some r): ∀st,au [1,8] [(72,.id 72)] [] st=MG a1 a2 tV B6→ZX d Q aaC [] st:=by
 intro st he
 refine av he ?_
 unfold kU at hS
 refine bw (aC (zS (zL 1 (aq hS (fun XB apd hS=>zO (v:=(.d (.int .u8 (XB.toNat:Int)))) (aD:= []) (some 24) (.iy (tm 23) (ki 0)) (fA (kk:= .i64) (s:=tV) (j:=0) (by kernel_rfl) (by kernel_rfl) apd) (sB 25 hS (fun hS=>?_) (fun hS=>?_)))))))
 ·exact zK (zT (aC (cG (cy 2 (aq hS (fun z72 ad2 hS=>di (v:=(.d (.int .u8 (z72.toNat:Int)))) (aD:= []) (some 28) none (.iy (tm 27) (ki 0)) (fA (kk:= .i64) (s:=tV) (j:=0) (by kernel_rfl) (by kernel_rfl) ad2) (di (v:=(dI (z72.toNat:Int))) (aD:= []) (some 29) none (.kF .i64 (tm 28)) (gJ (kk:= .u8) (a:=(z72.toNat:Int)) (by kernel_rfl) (qW _)) (cy 1 (aq hS (fun TM aDq hS=>di (v:=(.r (.aL 72 1 0 TM.length))) (aD:= [(72,⟨1,some (.own 3 1 (eI.cells TM))⟩)]) (some 31) none (.app 3 1 8 (tm 26) (tm 30)) (eM eI (b:=72) (g:=0) (n:=B6.length) (xs:=B6) (ys:= [(z72.toNat:Int)]) ((congrArg (fP _) (by kernel_rfl:b8 _ (.tmp 30)=(.r (.aL 248 1 0 (([(z72.toNat:Int)]:List Int).length))))).trans (cZ eI (e:=3) (k:=1) (xs:= [(z72.toNat:Int)]) (by kernel_rfl) rfl rfl)) rfl (by kernel_rfl) rfl (by kernel_rfl) rfl aDq) (cy 1 (aq hS (fun XC aDr hS=>di (v:=(.d (.str XC))) (aD:= []) (some 33) none (.wu (tm 32) (.some (ki 1)) .none) (FP (s:=tV) (a:=1) (c:=(tV.length:Int)) (by kernel_rfl) (mD _ (kk:= .i64) (j:=1) (by kernel_rfl)) (CK _) aDr) (cy 2 (fG (lK hS hQ))))))))))))))))
 ·exact jL (KO hd hQ hS)
def mb(a1 a2:S8)(x:S8×(List Int)):Option ((S8×(List Int))⊕(((List Int))⊕(S8×(List Int)×Int))):=(bif (!decide (x.1=([]:S8))) then (kU a1 a2 x.1 x.2) else (some (.inr (.inl x.2))))
theorem Ub(hd:4≤d){a1 a2:S8}{r:(S8×(List Int))⊕(((List Int))⊕(S8×(List Int)×Int))}(hQ:FQ (bG (pq a1 a2) (sQ a1 a2) r) Q){x:S8×(List Int)}(hS:mb a1 a2 x=some r)(he:pq a1 a2 x st):ZX d Q aaD [] st:=by
 refine av he ?_
 unfold mb at hS
 refine aC (zS (zL 1 (sB 22 hS (fun hS=>?_) (fun hS=>?_))))
 ·exact jL (KP hd hQ hS)
 ·exact zK (zF (av (J:=B5 a1 a2 x.2) (by kernel_rfl) (cX (cV (bg (jw hS hQ))))))
def X_(a1 a2:S8):St:=⟨(up (up u0 1 (.d (.str a2))) 0 (.d (.str a1))),h0⟩
def EB(a1 a2:S8):Option (S8×(List Int)×Int):=((ep a1 a2).bind fun KE=>((b9 (mb a1 a2) (KE,[])).bind fun z75=>(Sum.elim (fun z76=>(some ([],z76,0))) (fun TN=>(some (TN.1,TN.2.1,TN.2.2))) z75)))
theorem Uc(hd:4≤d){a1 a2:S8}{r:S8×(List Int)×Int}(hQ:FQ (aea r) Q)(hS:EB a1 a2=some r): ∀st,au [0,1] [] [] st=X_ a1 a2→ZX d Q aaE [] st:=by
 intro st he
 refine av he ?_
 unfold EB at hS
 refine zS (zL 1 (zK (aC (zS (zL 2 (aq hS (fun KE apM hS=>zO (v:=(.d (.str KE))) (aD:= []) (some 20) (.jJ .add (tm 18) (tm 19)) (gP (a:=a1) (c:=a2) (by kernel_rfl) (by kernel_rfl) apM) (zL 1 (zK (bw (aq hS (fun z75 ape hS=>dF (pq a1 a2) (sQ a1 a2) (fun x st r Q h0 hS hQ=>Ub hd hQ hS h0) (x:=(KE,[])) (z:=z75) (by show au _ _ _ _=_;kernel_rfl) ape ?_))))))))))))
 rcases z75 with z76 | TN
 ·replace hS:=(show _=_ from hS)
  simp only [tD] at hS
  intro e bl _ hX
  obtain ⟨rfl,rfl⟩:_∧_:=hX
  exact kq (cq (zS (zL 4 (zK (cL (bg (dW hS hQ (fR F8))))))))
 ·simp only [tE] at hS
  intro e bl _ hX
  obtain ⟨rfl,hX⟩:_∧_:=hX
  exact cj (bQ (bg (dW hS hQ (je (by kernel_rfl) ((congrArg (fun s=>cN s 0 Ka.res) hX).trans F8)))))
def f106(a1 a2:S8):Option (S8×(List Int)×Int):=((f20 a1).bind fun TP=>(bif (!decide (TP=0)) then (some ([],[],TP)) else (EB a1 a2)))
theorem apN{d:Nat}(hd:4≤d){a1 a2:S8}{r:S8×(List Int)×Int}(hS:f106 a1 a2=some r):bZ ay aX d 106 [(.d (.str a1)),(.d (.str a2))] []=some ((.bH [(.d (.str r.1)),(.r (.own 0 3 1 r.2.1.length (eI.cells r.2.1))),(dI r.2.2)]),[]):=by
 refine cI hd (fun Q hQ=>?_) afK
 unfold f106 at hS
 show ZR _ Q aaF [] _
 replace hQ:FQ (aea r) Q:=hQ
 refine zS (zL 3 (zK (aC (zS (zL 1 (aq hS (fun TP apf hS=>zC 14 (adT (aV hd rfl) apf) (zL 1 (zK (zS (zL 1 (sB 16 hS (fun hS=>?_) (fun hS=>?_)))))))))))))
 ·exact zK (zT (zS (zL 4 (zK (cL (bQ (bg (dW hS hQ (fR F8)))))))))
 ·exact jL (Uc hd hQ hS)
/- (*farwriter/parse.machine).emit -/
def av9(r:Int×Int×S8×S8×S8×(List aM))(e:PX)(st:St):Prop:=aU aaH 2 ((.bH []),[(.box ((dI r.1)::((dI r.2.1)::((.d (.str r.2.2.1))::((.d (.str r.2.2.2.1))::((.d (.str r.2.2.2.2.1))::((.r (.aL 1 0 0 r.2.2.2.2.2.length)):: []))))))),(.own 248 6 (bD.cells r.2.2.2.2.2))]) e st
def f179(a1:aM)(a2 a3:Int)(a4 a5 a6:S8)(a7:List aM):Option (Int×Int×S8×S8×S8×(List aM)):=((eP 80 a7 ([a1]:List aM)).bind fun z2=>(some (a2,a3,a4,a5,a6,z2)))
theorem nT{d:Nat}(hd:1≤d){a1:aM}{a2 a3:Int}{a4 a5 a6:S8}{a7:List aM}{r:Int×Int×S8×S8×S8×(List aM)}(hS:f179 a1 a2 a3 a4 a5 a6 a7=some r):bZ ay aX d 179 [(pt 0),(N1 a1)] [(.box ((dI a2)::((dI a3)::((.d (.str a4))::((.d (.str a5))::((.d (.str a6))::((.r (.aL 1 0 0 a7.length)):: []))))))),(.own 248 6 (bD.cells a7))]=some ((.bH []),[(.box ((dI r.1)::((dI r.2.1)::((.d (.str r.2.2.1))::((.d (.str r.2.2.2.1))::((.d (.str r.2.2.2.2.1))::((.r (.aL 1 0 0 r.2.2.2.2.2.length)):: []))))))),(.own 248 6 (bD.cells r.2.2.2.2.2))]):=by
 refine cI hd (fun Q hQ=>?_) af0
 unfold f179 at hS
 show ZR _ Q aaG [] _
 replace hQ:FQ (av9 r) Q:=hQ
 exact zS (zL 1 (zK (cG (cy 7 (aq hS (fun z2 hz2 hS=>di (v:=(.r (.aL 1 1 0 z2.length))) (aD:= [(1,⟨1,some (.own 248 6 (bD.cells z2))⟩)]) (some 11) none (.app 248 6 80 (tm 8) (tm 10)) (eM bD (b:=1) (g:=0) (n:=a7.length) (xs:=a7) (ys:= [a1]) ((congrArg (fP _) (by kernel_rfl:b8 _ (.tmp 10)=(.r (.aL 88 1 0 (([a1]:List aM).length))))).trans (cZ bD (e:=248) (k:=6) (xs:= [a1]) (by kernel_rfl) rfl rfl)) rfl (by kernel_rfl) rfl (by kernel_rfl) rfl hz2) (cy 3 (fG (nK hS hQ)))))))))
/- (*farwriter/parse.machine).enter -/
def av_(r:Int×(List aM))(e:PX)(st:St):Prop:=aU aaJ 2 ((.bH []),[(.box ((dI r.1)::((dI 0)::((.d (.str ([])))::((.d (.str ([])))::((.d (.str ([])))::((.r (.aL 1 0 0 r.2.length)):: []))))))),(.own 248 6 (bD.cells r.2))]) e st
def f180(a1 a2 a3:Int)(a4 a5 a6:S8)(a7:List aM):Option (Int×(List aM)):=(some (a1,a7))
theorem qg{d:Nat}(hd:1≤d){a1 a2 a3:Int}{a4 a5 a6:S8}{a7:List aM}{r:Int×(List aM)}(hS:f180 a1 a2 a3 a4 a5 a6 a7=some r):bZ ay aX d 180 [(pt 0),(dI a1)] [(.box ((dI a2)::((dI a3)::((.d (.str a4))::((.d (.str a5))::((.d (.str a6))::((.r (.aL 1 0 0 a7.length)):: []))))))),(.own 248 6 (bD.cells a7))]=some ((.bH []),[(.box ((dI r.1)::((dI 0)::((.d (.str ([])))::((.d (.str ([])))::((.d (.str ([])))::((.r (.aL 1 0 0 r.2.length)):: []))))))),(.own 248 6 (bD.cells r.2))]):=by
 refine cI hd (fun Q hQ=>?_) af1
 unfold f180 at hS
 show ZR _ Q aaI [] _
 replace hQ:FQ (av_ r) Q:=hQ
 exact nR hS hQ
/- (*farwriter/parse.machine).drop -/
def awa(r:Int×(List aM))(e:PX)(st:St):Prop:=aU aaL 2 ((.bH []),[(.box ((dI r.1)::((dI 0)::((.d (.str ([])))::((.d (.str ([])))::((.d (.str ([])))::((.r (.aL 1 0 0 r.2.length)):: []))))))),(.own 248 6 (bD.cells r.2))]) e st
def f181(a1 a2 a3:Int)(a4 a5 a6:S8)(a7:List aM):Option (Int×(List aM)):=((f179 (aM.mk 6 0 0 ([]) ([]) ([])) a2 a3 a4 a5 a6 a7).bind fun z3=>((f180 a1 z3.1 z3.2.1 z3.2.2.1 z3.2.2.2.1 z3.2.2.2.2.1 z3.2.2.2.2.2).bind fun z4=>(some (z4.1,z4.2))))
theorem zg{d:Nat}(hd:2≤d){a1 a2 a3:Int}{a4 a5 a6:S8}{a7:List aM}{r:Int×(List aM)}(hS:f181 a1 a2 a3 a4 a5 a6 a7=some r):bZ ay aX d 181 [(pt 0),(dI a1)] [(.box ((dI a2)::((dI a3)::((.d (.str a4))::((.d (.str a5))::((.d (.str a6))::((.r (.aL 1 0 0 a7.length)):: []))))))),(.own 248 6 (bD.cells a7))]=some ((.bH []),[(.box ((dI r.1)::((dI 0)::((.d (.str ([])))::((.d (.str ([])))::((.d (.str ([])))::((.r (.aL 1 0 0 r.2.length)):: []))))))),(.own 248 6 (bD.cells r.2))]):=by
 refine cI hd (fun Q hQ=>?_) af2
 unfold f181 at hS
 show ZR _ Q aaK [] _
 replace hQ:FQ (awa r) Q:=hQ
 exact zS (zL 2 (aq hS (fun z3 hz3 hS=>fW 6 [0,1] (nT (aV hd rfl) hz3) (zK (a_ (zL 2 (aq hS (fun z4 iZ hS=>fW 9 [0,1] (qg (aV hd rfl) iZ) (nL hS hQ)))))))))
/- (*farwriter/parse.machine).text -/
def awb(r:Int×Int×S8×S8×S8×(List aM))(e:PX)(st:St):Prop:=aU aaN 2 ((.bH []),[(.box ((dI r.1)::((dI r.2.1)::((.d (.str r.2.2.1))::((.d (.str r.2.2.2.1))::((.d (.str r.2.2.2.2.1))::((.r (.aL 1 0 0 r.2.2.2.2.2.length)):: []))))))),(.own 248 6 (bD.cells r.2.2.2.2.2))]) e st
def f178(a1 a2 a3:Int)(a4 a5 a6:S8)(a7:List aM):Option (Int×Int×S8×S8×S8×(List aM)):=(bif (decide (a1=27)) then (some ((IntKind.i64.wrap (a2+1)),a3,a4,a5,a6,a7)) else (bif (decide (a1=24)) then ((f181 0 a2 a3 a4 a5 a6 a7).bind fun z7=>(some (z7.1,0,[],[],[],z7.2))) else (bif (decide (a1=26)) then ((f181 0 a2 a3 a4 a5 a6 a7).bind fun z8=>(some (z8.1,0,[],[],[],z8.2))) else (bif (decide (a2=9)) then (some (a2,a3,a4,a5,a6,a7)) else (bif (decide (a1=7)) then ((f179 (aM.mk 5 0 0 ([]) ([]) a6) a2 a3 a4 a5 a6 a7).bind fun z9=>((f180 0 z9.1 z9.2.1 z9.2.2.1 z9.2.2.2.1 z9.2.2.2.2.1 z9.2.2.2.2.2).bind fun dh=>(some (dh.1,0,[],[],[],dh.2)))) else (bif (decide (a1<32)) then (some (a2,a3,a4,a5,a6,a7)) else ((f55 a1 127 159).bind fun z12=>(bif z12 then (some (a2,a3,a4,a5,a6,a7)) else ((f78 [a1]).bind fun eZ=>((ep a6 eZ).bind fun dx=>(bif (decide ((dx.length:Int)≤256)) then (some (a2,a3,a4,a5,dx,a7)) else (some (a2,a3,a4,a5,a6,a7)))))))))))))
theorem apO{d:Nat}(hd:4≤d){a1 a2 a3:Int}{a4 a5 a6:S8}{a7:List aM}{r:Int×Int×S8×S8×S8×(List aM)}(hS:f178 a1 a2 a3 a4 a5 a6 a7=some r):bZ ay aX d 178 [(pt 0),(dI a1)] [(.box ((dI a2)::((dI a3)::((.d (.str a4))::((.d (.str a5))::((.d (.str a6))::((.r (.aL 1 0 0 a7.length)):: []))))))),(.own 248 6 (bD.cells a7))]=some ((.bH []),[(.box ((dI r.1)::((dI r.2.1)::((.d (.str r.2.2.1))::((.d (.str r.2.2.2.1))::((.d (.str r.2.2.2.2.1))::((.r (.aL 1 0 0 r.2.2.2.2.2.length)):: []))))))),(.own 248 6 (bD.cells r.2.2.2.2.2))]):=by
 refine cI hd (fun Q hQ=>?_) afZ
 unfold f178 at hS
 show ZR _ Q aaM [] _
 replace hQ:FQ (awb r) Q:=hQ
 refine bw (zS (zL 1 (sB 24 hS (fun hS=>?_) (fun hS=>?_))))
 ·exact nL hS hQ
 ·refine zL 1 (zK (zF (zS (zL 1 (sB 36 hS (fun hS=>?_) (fun hS=>?_))))))
  ·exact zL 5 (zK (zT (a_ (zL 1 (aq hS (fun z7 kO hS=>fW 42 [0,1] (zg (aV hd rfl) kO) (nL hS hQ)))))))
  ·refine zL 2 (sB 39 hS (fun hS=>?_) (fun hS=>?_))
   ·exact zL 2 (zK (zT (a_ (zL 1 (aq hS (fun z8 iW hS=>fW 42 [0,1] (zg (aV hd rfl) iW) (nL hS hQ)))))))
   ·refine zL 2 (zK (zF (zS (zL 5 (sB 49 hS (fun hS=>?_) (fun hS=>?_))))))
    ·exact nL hS hQ
    ·refine zL 1 (zK (zF (zS (zL 1 (sB 52 hS (fun hS=>?_) (fun hS=>?_))))))
     ·exact zL 1 (zK (zT (zS (zL 7 (aq hS (fun z9 jF hS=>fW 60 [0,1] (nT (aV hd rfl) jF) (zK (a_ (zL 1 (aq hS (fun dh iT hS=>fW 62 [0,1] (qg (aV hd rfl) iT) (nL hS hQ))))))))))))
     ·refine zL 1 (zK (zF (zS (zL 1 (sB 65 hS (fun hS=>?_) (fun hS=>?_))))))
      ·exact nL hS hQ
      ·refine zL 2 (aq hS (fun z12 gG hS=>zG (some 68) 66 false (.call 55 [(tm 67),(ki 127),(ki 159)]) (b_ (D_ (aV hd rfl) gG)) (zL 2 (zK (sR 63 hS (fun hS=>?_) (fun hS=>?_))))))
       ·exact nR hS hQ
       ·refine zF (aC (cG (cy 7 (aq hS (fun eZ lG hS=>di (some 12) none (c1 78 11) (iK (args:= [(.r (.aL 96 1 0 (([a1]:List Int).length)))]) (by kernel_rfl) (jy (uB eI (e:=3) (k:=1) (xs:= [a1]) (by kernel_rfl) rfl rfl) mF) (A4 (aV hd rfl) lG) (by kernel_rfl) (by kernel_rfl)) (aq hS (fun dx ju hS=>di (v:=(.d (.str dx))) (aD:= []) (some 13) none (.jJ .add (tm 9) (tm 12)) (gP (a:=a6) (c:=eZ) (by kernel_rfl) (by kernel_rfl) ju) (cy 1 (fG (cq (zS (zL 2 (sB 16 hS (fun hS=>?_) (fun hS=>?_))))))))))))))
        ·exact nL hS hQ
        ·exact nL hS hQ
/- (*farwriter/parse.machine).control -/
def Rf(r:Int×Int×S8×S8×S8×(List aM)×Bool)(e:PX)(st:St):Prop:=aU aaQ 2 ((dB r.2.2.2.2.2.2),[(.box ((dI r.1)::((dI r.2.1)::((.d (.str r.2.2.1))::((.d (.str r.2.2.2.1))::((.d (.str r.2.2.2.2.1))::((.r (.aL 1 0 0 r.2.2.2.2.2.1.length)):: []))))))),(.own 248 6 (bD.cells r.2.2.2.2.2.1))]) e st
def Ya(a1 a2 a3:Int)(a4 a5 a6:S8)(a7:List aM)(Yb:Int):St:=⟨(up (up (up u0 1000001 .un) 5 (dI Yb)) 0 (pt 0)),(up (up h0 1 ⟨1,some (.own 248 6 (bD.cells a7))⟩) 0 ⟨0,some (.box ((dI a2)::((dI a3)::((.d (.str a4))::((.d (.str a5))::((.d (.str a6))::((.r (.aL 1 1 0 a7.length)):: [])))))))⟩)⟩
def vE(a1 a2 a3:Int)(a4 a5 a6:S8)(a7:List aM)(Yb:Int):Option (Int×Int×S8×S8×S8×(List aM)×Bool):=(bif (!decide (a2=0)) then ((f179 (aM.mk 6 0 0 ([]) ([]) ([])) a2 a3 a4 a5 a6 a7).bind fun z7=>((f180 Yb z7.1 z7.2.1 z7.2.2.1 z7.2.2.2.1 z7.2.2.2.2.1 z7.2.2.2.2.2).bind fun z8=>(some (z8.1,0,[],[],[],z8.2,true)))) else ((f180 Yb a2 a3 a4 a5 a6 a7).bind fun z9=>(some (z9.1,0,[],[],[],z9.2,true))))
theorem GZ(hd:2≤d){a1 a2 a3:Int}{a4 a5 a6:S8}{a7:List aM}{r:Int×Int×S8×S8×S8×(List aM)×Bool}(hQ:FQ (Rf r) Q){Yb:Int}(hS:vE a1 a2 a3 a4 a5 a6 a7 Yb=some r): ∀st,au [0,5,1000001] [(0,.id 0),(1,.id 1)] [] st=Ya a1 a2 a3 a4 a5 a6 a7 Yb→ZX d Q Qe [] st:=by
 intro st he
 refine av he ?_
 unfold vE at hS
 refine aC (zS (zL 5 (sB 30 hS (fun hS=>?_) (fun hS=>?_))))
 ·exact zK (zT (a_ (zL 2 (aq hS (fun z7 kO hS=>fW 33 [0,1] (nT (aV hd rfl) kO) (zK (zS (zL 2 (aq hS (fun z8 iW hS=>fW 36 [0,1] (qg (aV hd rfl) iW) (nL hS hQ)))))))))))
 ·exact zK (zF (fV (cq (zS (zL 2 (aq hS (fun z9 jF hS=>fW 36 [0,1] (qg (aV hd rfl) jF) (nL hS hQ))))))))
def Yc(a1 a2 a3:Int)(a4 a5 a6:S8)(a7:List aM):St:=⟨(up (up (up u0 1000001 .un) 5 (dI 0)) 0 (pt 0)),(up (up h0 1 ⟨1,some (.own 248 6 (bD.cells a7))⟩) 0 ⟨0,some (.box ((dI a2)::((dI a3)::((.d (.str a4))::((.d (.str a5))::((.d (.str a6))::((.r (.aL 1 1 0 a7.length)):: [])))))))⟩)⟩
def vG(a1 a2 a3:Int)(a4 a5 a6:S8)(a7:List aM):Option (Int×Int×S8×S8×S8×(List aM)×Bool):=(vE a1 a2 a3 a4 a5 a6 a7 0)
theorem G0(hd:2≤d){a1 a2 a3:Int}{a4 a5 a6:S8}{a7:List aM}{r:Int×Int×S8×S8×S8×(List aM)×Bool}(hQ:FQ (Rf r) Q)(hS:vG a1 a2 a3 a4 a5 a6 a7=some r): ∀st,au [0,5,1000001] [(0,.id 0),(1,.id 1)] [] st=Yc a1 a2 a3 a4 a5 a6 a7→ZX d Q aaO [.blk 0,.seq Qe] st:=by
 intro st he
 refine av he ?_
 unfold vG at hS
 exact jR (GZ hd hQ hS)
def f182(a1 a2 a3:Int)(a4 a5 a6:S8)(a7:List aM):Option (Int×Int×S8×S8×S8×(List aM)×Bool):=(bif (decide (a1=27)) then (vE a1 a2 a3 a4 a5 a6 a7 1) else (bif (decide (a1=24)) then (vG a1 a2 a3 a4 a5 a6 a7) else (bif (decide (a1=26)) then (vG a1 a2 a3 a4 a5 a6 a7) else (bif (decide (a1<32)) then ((f179 (aM.mk 2 a1 0 ([]) ([]) ([])) a2 a3 a4 a5 a6 a7).bind fun dh=>(some (dh.1,dh.2.1,dh.2.2.1,dh.2.2.2.1,dh.2.2.2.2.1,dh.2.2.2.2.2,true))) else ((f55 a1 127 159).bind fun cM=>(some (a2,a3,a4,a5,a6,a7,cM)))))))
theorem apP{d:Nat}(hd:2≤d){a1 a2 a3:Int}{a4 a5 a6:S8}{a7:List aM}{r:Int×Int×S8×S8×S8×(List aM)×Bool}(hS:f182 a1 a2 a3 a4 a5 a6 a7=some r):bZ ay aX d 182 [(pt 0),(dI a1)] [(.box ((dI a2)::((dI a3)::((.d (.str a4))::((.d (.str a5))::((.d (.str a6))::((.r (.aL 1 0 0 a7.length)):: []))))))),(.own 248 6 (bD.cells a7))]=some ((dB r.2.2.2.2.2.2),[(.box ((dI r.1)::((dI r.2.1)::((.d (.str r.2.2.1))::((.d (.str r.2.2.2.1))::((.d (.str r.2.2.2.2.1))::((.r (.aL 1 0 0 r.2.2.2.2.2.1.length)):: []))))))),(.own 248 6 (bD.cells r.2.2.2.2.2.1))]):=by
 refine cI hd (fun Q hQ=>?_) af3
 unfold f182 at hS
 show ZR _ Q aaP [] _
 replace hQ:FQ (Rf r) Q:=hQ
 refine zS (zL 1 (zK (zS (zL 1 (zK (aC (bw (zS (zL 1 (sB 10 hS (fun hS=>?_) (fun hS=>?_)))))))))))
 ·exact jL (GZ hd hQ hS)
 ·refine zL 1 (zK (zF (zS (zL 1 (sB 13 hS (fun hS=>?_) (fun hS=>?_))))))
  ·exact zL 5 (zK (zT (G0 hd hQ hS _ (by kernel_rfl))))
  ·refine zL 2 (sB 16 hS (fun hS=>?_) (fun hS=>?_))
   ·exact zL 2 (zK (zT (G0 hd hQ hS _ (by kernel_rfl))))
   ·refine zL 2 (zK (zF (zS (zL 1 (sB 20 hS (fun hS=>?_) (fun hS=>?_))))))
    ·exact zL 1 (zK (zT (zS (zL 3 (aq hS (fun dh iT hS=>fW 24 [0,1] (nT (aV hd rfl) iT) (nL hS hQ)))))))
    ·exact zL 1 (zK (zF (zS (zL 1 (aq hS (fun cM jN hS=>zC 7 (D_ (aV hd rfl) jN) (nL hS hQ)))))))
/- (*farwriter/parse.machine).more -/
def awc(r:Int×Int×S8×S8×S8×(List aM))(e:PX)(st:St):Prop:=aU aaS 2 ((.bH []),[(.box ((dI r.1)::((dI r.2.1)::((.d (.str r.2.2.1))::((.d (.str r.2.2.2.1))::((.d (.str r.2.2.2.2.1))::((.r (.aL 1 0 0 r.2.2.2.2.2.length)):: []))))))),(.own 248 6 (bD.cells r.2.2.2.2.2))]) e st
def f206(a1 a2 a3:Int)(a4 a5 a6:S8)(a7:List aM):Option (Int×Int×S8×S8×S8×(List aM)):=(bif (decide ((a4.length:Int)<3)) then ((ep a4 ((Utf8.encode (IntKind.i32.wrap (a1))).data.toList)).bind fun z2=>(some (a2,a3,z2,a5,a6,a7))) else (some (a2,a3,a4,a5,a6,a7)))
theorem Ud{d:Nat}(hd:1≤d){a1 a2 a3:Int}{a4 a5 a6:S8}{a7:List aM}{r:Int×Int×S8×S8×S8×(List aM)}(hS:f206 a1 a2 a3 a4 a5 a6 a7=some r):bZ ay aX d 206 [(pt 0),(dI a1)] [(.box ((dI a2)::((dI a3)::((.d (.str a4))::((.d (.str a5))::((.d (.str a6))::((.r (.aL 1 0 0 a7.length)):: []))))))),(.own 248 6 (bD.cells a7))]=some ((.bH []),[(.box ((dI r.1)::((dI r.2.1)::((.d (.str r.2.2.1))::((.d (.str r.2.2.2.1))::((.d (.str r.2.2.2.2.1))::((.r (.aL 1 0 0 r.2.2.2.2.2.length)):: []))))))),(.own 248 6 (bD.cells r.2.2.2.2.2))]):=by
 refine cI hd (fun Q hQ=>?_) agc
 unfold f206 at hS
 show ZR _ Q aaR [] _
 replace hQ:FQ (awc r) Q:=hQ
 refine zS (zL 6 (sB 10 hS (fun hS=>?_) (fun hS=>?_)))
 ·exact zK (zT (a_ (zL 8 (aq hS (fun z2 hz2 hS=>zO (v:=(.d (.str z2))) (aD:= []) (some 19) (.jJ .add (tm 15) (tm 18)) (gP (a:=a4) (c:=(Utf8.encode (IntKind.i32.wrap (a1))).data.toList) (by kernel_rfl) (by kernel_rfl) hz2) (nL hS hQ))))))
 ·exact nL hS hQ
/- (*farwriter/parse.machine).final -/
def awd(r:Int×(List aM))(e:PX)(st:St):Prop:=aU aaU 2 ((.bH []),[(.box ((dI r.1)::((dI 0)::((.d (.str ([])))::((.d (.str ([])))::((.d (.str ([])))::((.r (.aL 1 0 0 r.2.length)):: []))))))),(.own 248 6 (bD.cells r.2))]) e st
def f207(a1:aM)(a2 a3:Int)(a4 a5 a6:S8)(a7:List aM):Option (Int×(List aM)):=(bif (decide ((a4.length:Int)=3)) then ((f179 (aM.mk 6 0 0 ([]) ([]) ([])) a2 a3 a4 a5 a6 a7).bind fun z3=>((f180 0 z3.1 z3.2.1 z3.2.2.1 z3.2.2.2.1 z3.2.2.2.2.1 z3.2.2.2.2.2).bind fun z4=>(some (z4.1,z4.2)))) else ((f179 a1 a2 a3 a4 a5 a6 a7).bind fun z5=>((f180 0 z5.1 z5.2.1 z5.2.2.1 z5.2.2.2.1 z5.2.2.2.2.1 z5.2.2.2.2.2).bind fun z6=>(some (z6.1,z6.2)))))
theorem KQ{d:Nat}(hd:2≤d){a1:aM}{a2 a3:Int}{a4 a5 a6:S8}{a7:List aM}{r:Int×(List aM)}(hS:f207 a1 a2 a3 a4 a5 a6 a7=some r):bZ ay aX d 207 [(pt 0),(N1 a1)] [(.box ((dI a2)::((dI a3)::((.d (.str a4))::((.d (.str a5))::((.d (.str a6))::((.r (.aL 1 0 0 a7.length)):: []))))))),(.own 248 6 (bD.cells a7))]=some ((.bH []),[(.box ((dI r.1)::((dI 0)::((.d (.str ([])))::((.d (.str ([])))::((.d (.str ([])))::((.r (.aL 1 0 0 r.2.length)):: []))))))),(.own 248 6 (bD.cells r.2))]):=by
 refine cI hd (fun Q hQ=>?_) agd
 unfold f207 at hS
 show ZR _ Q aaT [] _
 replace hQ:FQ (awd r) Q:=hQ
 refine zS (zL 1 (zK (aC (zS (zL 6 (sB 10 hS (fun hS=>?_) (fun hS=>?_)))))))
 ·exact zK (zT (a_ (zL 2 (zK (zS (zL 2 (aq hS (fun z3 hz3 hS=>fW 14 [0,1] (nT (aV hd rfl) hz3) (zK (a_ (zL 1 (aq hS (fun z4 iZ hS=>fW 16 [0,1] (qg (aV hd rfl) iZ) (nL hS hQ))))))))))))))
 ·exact zK (zF (fV (cq (zS (zL 2 (aq hS (fun z5 jQ hS=>fW 14 [0,1] (nT (aV hd rfl) jQ) (zK (a_ (zL 1 (aq hS (fun z6 l9 hS=>fW 16 [0,1] (qg (aV hd rfl) l9) (nL hS hQ)))))))))))))
/- strings.IndexByte -/
theorem F9{d:Nat}(hd:0≤d){a1:S8}{a2:UInt8}{r:Int}(hS:l6 a1 a2=some r):bZ ay aX d 208 [(.d (.str a1)),(.d (.int .u8 (a2.toNat:Int)))] []=some ((dI r),[]):=oF (l:=libs) rfl rfl rfl (azX hS) d
/- (*farwriter/parse.machine).esc -/
def awe(r:Int×Int×S8×S8×S8×(List aM))(e:PX)(st:St):Prop:=aU aaW 2 ((.bH []),[(.box ((dI r.1)::((dI r.2.1)::((.d (.str r.2.2.1))::((.d (.str r.2.2.2.1))::((.d (.str r.2.2.2.2.1))::((.r (.aL 1 0 0 r.2.2.2.2.2.length)):: []))))))),(.own 248 6 (bD.cells r.2.2.2.2.2))]) e st
def f183(a1 a2 a3:Int)(a4 a5 a6:S8)(a7:List aM):Option (Int×Int×S8×S8×S8×(List aM)):=(bif (decide (a1<48)) then ((f206 a1 a2 a3 a4 a5 a6 a7).bind fun z5=>(some (2,z5.2.1,z5.2.2.1,z5.2.2.2.1,z5.2.2.2.2.1,z5.2.2.2.2.2))) else (bif (decide (a2=2)) then ((f207 (aM.mk 3 a1 0 a4 ([]) ([])) a2 a3 a4 a5 a6 a7).bind fun z6=>(some (z6.1,0,[],[],[],z6.2))) else (bif (decide (a1=91)) then (some (3,a3,a4,a5,a6,a7)) else (bif (decide (a1=93)) then (some (7,a3,a4,a5,a6,a7)) else ((l6 [80,88,94,95] (u8 a1)).bind fun z8=>(bif (decide (0≤z8)) then (some (9,a3,a4,a5,a6,a7)) else ((f207 (aM.mk 3 a1 0 ([]) ([]) ([])) a2 a3 a4 a5 a6 a7).bind fun z9=>(some (z9.1,0,[],[],[],z9.2)))))))))
theorem apQ{d:Nat}(hd:3≤d){a1 a2 a3:Int}{a4 a5 a6:S8}{a7:List aM}{r:Int×Int×S8×S8×S8×(List aM)}(hS:f183 a1 a2 a3 a4 a5 a6 a7=some r):bZ ay aX d 183 [(pt 0),(dI a1)] [(.box ((dI a2)::((dI a3)::((.d (.str a4))::((.d (.str a5))::((.d (.str a6))::((.r (.aL 1 0 0 a7.length)):: []))))))),(.own 248 6 (bD.cells a7))]=some ((.bH []),[(.box ((dI r.1)::((dI r.2.1)::((.d (.str r.2.2.1))::((.d (.str r.2.2.2.1))::((.d (.str r.2.2.2.2.1))::((.r (.aL 1 0 0 r.2.2.2.2.2.length)):: []))))))),(.own 248 6 (bD.cells r.2.2.2.2.2))]):=by
 refine cI hd (fun Q hQ=>?_) af4
 unfold f183 at hS
 show ZR _ Q aaV [] _
 replace hQ:FQ (awe r) Q:=hQ
 refine bw (zS (zL 1 (sB 10 hS (fun hS=>?_) (fun hS=>?_))))
 ·exact zL 1 (zK (zT (zS (zL 2 (aq hS (fun z5 jQ hS=>fW 13 [0,1] (Ud (aV hd rfl) jQ) (nL hS hQ)))))))
 ·refine zL 1 (zK (zF (zS (zL 5 (sB 24 hS (fun hS=>?_) (fun hS=>?_))))))
  ·exact zL 1 (zK (zT (a_ (zL 8 (aq hS (fun z6 l9 hS=>fW 33 [0,1] (KQ (aV hd rfl) l9) (nL hS hQ)))))))
  ·refine zL 1 (zK (zF (zS (zL 1 (sB 36 hS (fun hS=>?_) (fun hS=>?_))))))
   ·exact nL hS hQ
   ·refine zL 1 (zK (zF (zS (zL 1 (sB 43 hS (fun hS=>?_) (fun hS=>?_))))))
    ·exact nL hS hQ
    ·refine zL 1 (zK (zF (zS (zL 1 (zO (v:=(.d (.int .u8 ((u8 a1).toNat:Int)))) (aD:= []) (some 50) (.kF .u8 (tm 49)) (gJ (kk:= .i64) (a:=a1) (by kernel_rfl) (iu _)) (aq hS (fun z8 iW hS=>zC 51 (F9 (aV hd rfl) iW) (sB 52 hS (fun hS=>?_) (fun hS=>?_)))))))))
     ·exact nL hS hQ
     ·exact zL 1 (zK (zF (a_ (zL 3 (aq hS (fun z9 jF hS=>fW 7 [0,1] (KQ (aV hd rfl) jF) (nL hS hQ)))))))
/- (*farwriter/parse.machine).ignore -/
def awf(r:(List aM))(e:PX)(st:St):Prop:=aU aaY 2 ((.bH []),[(.box ((dI 6)::((dI 0)::((.d (.str ([])))::((.d (.str ([])))::((.d (.str ([])))::((.r (.aL 1 0 0 r.length)):: []))))))),(.own 248 6 (bD.cells r))]) e st
def f209(a1 a2:Int)(a3 a4 a5:S8)(a6:List aM):Option ((List aM)):=(some a6)
theorem KR{d:Nat}(hd:1≤d){a1 a2:Int}{a3 a4 a5:S8}{a6:List aM}{r:(List aM)}(hS:f209 a1 a2 a3 a4 a5 a6=some r):bZ ay aX d 209 [(pt 0)] [(.box ((dI a1)::((dI a2)::((.d (.str a3))::((.d (.str a4))::((.d (.str a5))::((.r (.aL 1 0 0 a6.length)):: []))))))),(.own 248 6 (bD.cells a6))]=some ((.bH []),[(.box ((dI 6)::((dI 0)::((.d (.str ([])))::((.d (.str ([])))::((.d (.str ([])))::((.r (.aL 1 0 0 r.length)):: []))))))),(.own 248 6 (bD.cells r))]):=by
 refine cI hd (fun Q hQ=>?_) age
 unfold f209 at hS
 show ZR _ Q aaX [] _
 replace hQ:FQ (awf r) Q:=hQ
 exact nR hS hQ
/- (*farwriter/parse.machine).csi -/
def aec(r:Int×Int×S8×S8×S8×(List aM))(e:PX)(st:St):Prop:=aU aa1 2 ((.bH []),[(.box ((dI r.1)::((dI r.2.1)::((.d (.str r.2.2.1))::((.d (.str r.2.2.2.1))::((.d (.str r.2.2.2.2.1))::((.r (.aL 1 0 0 r.2.2.2.2.2.length)):: []))))))),(.own 248 6 (bD.cells r.2.2.2.2.2))]) e st
def Yd(a1 a2 a3:Int)(a4 a5 a6:S8)(a7:List aM)(gQ:List Int):St:=⟨(up (up (up (up u0 1000001 .un) 4 (dL gQ)) 1 (dI a1)) 0 (pt 0)),(up (up h0 1 ⟨1,some (.own 248 6 (bD.cells a7))⟩) 0 ⟨0,some (.box ((dI a2)::((dI a3)::((.d (.str a4))::((.d (.str a5))::((.d (.str a6))::((.r (.aL 1 1 0 a7.length)):: [])))))))⟩)⟩
def ED(a1 a2 a3:Int)(a4 a5 a6:S8)(a7:List aM)(gQ:List Int):Option (Int×Int×S8×S8×S8×(List aM)):=((f207 (aM.mk 4 a1 a3 a4 gQ ([])) a2 a3 a4 a5 a6 a7).bind fun cM=>(some (cM.1,0,[],[],[],cM.2)))
theorem Ue(hd:3≤d){a1 a2 a3:Int}{a4 a5 a6:S8}{a7:List aM}{r:Int×Int×S8×S8×S8×(List aM)}(hQ:FQ (aec r) Q){gQ:List Int}(hS:ED a1 a2 a3 a4 a5 a6 a7 gQ=some r): ∀st,au [0,1,4,1000001] [(0,.id 0),(1,.id 1)] [] st=Yd a1 a2 a3 a4 a5 a6 a7 gQ→ZX d Q aaZ [.blk 0] st:=by
 intro st he
 refine av he ?_
 unfold ED at hS
 exact cG (cy 14 (aq hS (fun cM jN hS=>di (some 55) none (.fU 207 [(tm 41),(tm 54)]) (P9 [0,1] (KQ (aV hd rfl) jN)) (fG (nK hS hQ)))))
def f184(a1 a2 a3:Int)(a4 a5 a6:S8)(a7:List aM):Option (Int×Int×S8×S8×S8×(List aM)):=(bif (decide (a2=6)) then (bif (decide (64≤a1)) then ((f181 0 a2 a3 a4 a5 a6 a7).bind fun z8=>(some (z8.1,0,[],[],[],z8.2))) else (some (a2,a3,a4,a5,a6,a7))) else (bif (decide (a1<48)) then ((f206 a1 a2 a3 a4 a5 a6 a7).bind fun z9=>(some (5,z9.2.1,z9.2.2.1,z9.2.2.2.1,z9.2.2.2.2.1,z9.2.2.2.2.2))) else (bif (decide (64≤a1)) then ((f54 a5).bind fun dh=>(ED a1 a2 a3 a4 a5 a6 a7 dh.1)) else (bif (decide (a2=5)) then ((f209 a2 a3 a4 a5 a6 a7).bind fun z12=>(some (6,0,[],[],[],z12))) else (bif (decide (a1=58)) then ((f209 a2 a3 a4 a5 a6 a7).bind fun dX=>(some (6,0,[],[],[],dX))) else (bif (decide (a1<60)) then (bif (decide ((a5.length:Int)<100)) then ((ep a5 ((Utf8.encode (IntKind.i32.wrap (a1))).data.toList)).bind fun dR=>(some (4,a3,a4,dR,a6,a7))) else (some (4,a3,a4,a5,a6,a7))) else (bif (decide (a2=3)) then (some (4,a1,a4,a5,a6,a7)) else ((f209 a2 a3 a4 a5 a6 a7).bind fun eZ=>(some (6,0,[],[],[],eZ))))))))))
theorem apR{d:Nat}(hd:3≤d){a1 a2 a3:Int}{a4 a5 a6:S8}{a7:List aM}{r:Int×Int×S8×S8×S8×(List aM)}(hS:f184 a1 a2 a3 a4 a5 a6 a7=some r):bZ ay aX d 184 [(pt 0),(dI a1)] [(.box ((dI a2)::((dI a3)::((.d (.str a4))::((.d (.str a5))::((.d (.str a6))::((.r (.aL 1 0 0 a7.length)):: []))))))),(.own 248 6 (bD.cells a7))]=some ((.bH []),[(.box ((dI r.1)::((dI r.2.1)::((.d (.str r.2.2.1))::((.d (.str r.2.2.2.1))::((.d (.str r.2.2.2.2.1))::((.r (.aL 1 0 0 r.2.2.2.2.2.length)):: []))))))),(.own 248 6 (bD.cells r.2.2.2.2.2))]):=by
 refine cI hd (fun Q hQ=>?_) af5
 unfold f184 at hS
 show ZR _ Q aa0 [] _
 replace hQ:FQ (aec r) Q:=hQ
 refine bw (zS (zL 5 (sB 14 hS (fun hS=>?_) (fun hS=>?_))))
 ·refine zL 1 (zK (zT (zS (zL 1 (sB 16 hS (fun hS=>?_) (fun hS=>?_))))))
  ·exact zK (zT (a_ (zL 1 (aq hS (fun z8 iW hS=>fW 18 [0,1] (zg (aV hd rfl) iW) (nL hS hQ))))))
  ·exact nL hS hQ
 ·refine zL 1 (zK (zF (zS (zL 1 (sB 21 hS (fun hS=>?_) (fun hS=>?_))))))
  ·exact zL 1 (zK (zT (zS (zL 2 (aq hS (fun z9 jF hS=>fW 24 [0,1] (Ud (aV hd rfl) jF) (nL hS hQ)))))))
  ·refine zL 1 (zK (zF (zS (zL 1 (sB 31 hS (fun hS=>?_) (fun hS=>?_))))))
   ·exact zL 1 (zK (zT (zS (zL 5 (aq hS (fun dh iT hS=>zC 38 (adW (aV hd rfl) iT) (zL 5 (zK (Ue hd hQ hS _ (by exact (by kernel_rfl:_=(⟨(up (up (up (up u0 1000001 .un) 4 (.d (.sl dh.1.length (((eI.cells dh.1).drop (0*eI.k)).take (dh.1.length*eI.k))))) 1 (dI a1)) 0 (pt 0)),(up (up h0 1 ⟨1,some (.own 248 6 (bD.cells a7))⟩) 0 ⟨0,some (.box ((dI a2)::((dI a3)::((.d (.str a4))::((.d (.str a5))::((.d (.str a6))::((.r (.aL 1 1 0 a7.length)):: [])))))))⟩)⟩:St)).trans (by simp only [cS.P3];kernel_rfl)))))))))))
   ·refine zL 1 (zK (zF (zS (zL 5 (sB 62 hS (fun hS=>?_) (fun hS=>?_))))))
    ·exact zL 5 (zK (zT (a_ (zL 1 (aq hS (fun z12 gG hS=>fW 68 [0,1] (KR (aV hd rfl) gG) (nL hS hQ)))))))
    ·refine zL 2 (sB 65 hS (fun hS=>?_) (fun hS=>?_))
     ·exact zL 2 (zK (zT (a_ (zL 1 (aq hS (fun dX iU hS=>fW 68 [0,1] (KR (aV hd rfl) iU) (nL hS hQ)))))))
     ·refine zL 2 (zK (zF (zS (zL 1 (sB 71 hS (fun hS=>?_) (fun hS=>?_))))))
      ·refine zL 1 (zK (zT (aC (zS (zL 6 (sB 78 hS (fun hS=>?_) (fun hS=>?_)))))))
       ·exact zK (zT (a_ (zL 8 (aq hS (fun dR kz hS=>zO (v:=(.d (.str dR))) (aD:= []) (some 87) (.jJ .add (tm 83) (tm 86)) (gP (a:=a5) (c:=(Utf8.encode (IntKind.i32.wrap (a1))).data.toList) (by kernel_rfl) (by kernel_rfl) kz) (nL hS hQ))))))
       ·exact nL hS hQ
      ·refine zL 1 (zK (zF (zS (zL 5 (sB 101 hS (fun hS=>?_) (fun hS=>?_))))))
       ·exact nL hS hQ
       ·exact zL 1 (zK (zF (a_ (zL 1 (aq hS (fun eZ lG hS=>fW 7 [0,1] (KR (aV hd rfl) lG) (nL hS hQ)))))))
/- (*farwriter/parse.machine).take -/
def EE(r:Int×Int×S8×S8×S8×(List aM))(e:PX)(st:St):Prop:=aU aa6 2 ((.bH []),[(.box ((dI r.1)::((dI r.2.1)::((.d (.str r.2.2.1))::((.d (.str r.2.2.2.1))::((.d (.str r.2.2.2.2.1))::((.r (.aL 1 0 0 r.2.2.2.2.2.length)):: []))))))),(.own 248 6 (bD.cells r.2.2.2.2.2))]) e st
def Ye(a1 a2 a3:Int)(a4 a5 a6:S8)(a7:List aM)(Kh nU:Int)(jq ij kS:S8)(fj:List aM):St:=⟨(up (up (up u0 1000001 .un) 1 (dI a1)) 0 (pt 0)),(up (up h0 1 ⟨1,some (.own 248 6 (bD.cells fj))⟩) 0 ⟨0,some (.box ((dI Kh)::((dI nU)::((.d (.str jq))::((.d (.str ij))::((.d (.str kS))::((.r (.aL 1 1 0 fj.length)):: [])))))))⟩)⟩
def vH(a1 a2 a3:Int)(a4 a5 a6:S8)(a7:List aM)(Kh nU:Int)(jq ij kS:S8)(fj:List aM):Option (Int×Int×S8×S8×S8×(List aM)):=((f182 a1 Kh nU jq ij kS fj).bind fun dR=>(bif dR.2.2.2.2.2.2 then (some (dR.1,dR.2.1,dR.2.2.1,dR.2.2.2.1,dR.2.2.2.2.1,dR.2.2.2.2.2.1)) else (bif (decide (dR.1=0)) then ((f179 (aM.mk 1 a1 0 ([]) ([]) ([])) dR.1 dR.2.1 dR.2.2.1 dR.2.2.2.1 dR.2.2.2.2.1 dR.2.2.2.2.2.1).bind fun eZ=>(some (eZ.1,eZ.2.1,eZ.2.2.1,eZ.2.2.2.1,eZ.2.2.2.2.1,eZ.2.2.2.2.2))) else (bif (decide (160≤a1)) then ((f181 0 dR.1 dR.2.1 dR.2.2.1 dR.2.2.2.1 dR.2.2.2.2.1 dR.2.2.2.2.2.1).bind fun dx=>(some (dx.1,0,[],[],[],dx.2))) else (bif (decide (dR.1≤2)) then ((f183 a1 dR.1 dR.2.1 dR.2.2.1 dR.2.2.2.1 dR.2.2.2.2.1 dR.2.2.2.2.2.1).bind fun f_=>(some (f_.1,f_.2.1,f_.2.2.1,f_.2.2.2.1,f_.2.2.2.2.1,f_.2.2.2.2.2))) else ((f184 a1 dR.1 dR.2.1 dR.2.2.1 dR.2.2.2.1 dR.2.2.2.2.1 dR.2.2.2.2.2.1).bind fun gb=>(some (gb.1,gb.2.1,gb.2.2.1,gb.2.2.2.1,gb.2.2.2.2.1,gb.2.2.2.2.2))))))))
theorem G1(hd:5≤d){a1 a2 a3:Int}{a4 a5 a6:S8}{a7:List aM}{r:Int×Int×S8×S8×S8×(List aM)}(hQ:FQ (EE r) Q){Kh nU:Int}{jq ij kS:S8}{fj:List aM}(hS:vH a1 a2 a3 a4 a5 a6 a7 Kh nU jq ij kS fj=some r): ∀st,au [0,1,1000001] [(0,.id 0),(1,.id 1)] [] st=Ye a1 a2 a3 a4 a5 a6 a7 Kh nU jq ij kS fj→ZX d Q Im [] st:=by
 intro st he
 refine av he ?_
 unfold vH at hS
 refine bw (zS (zL 2 (aq hS (fun dR kz hS=>fW 53 [0,1] (apP (aV hd rfl) kz) (zL 1 (zK (sR 50 hS (fun hS=>?_) (fun hS=>?_))))))))
 ·exact nR hS hQ
 ·refine zF (zS (zL 5 (sB 60 hS (fun hS=>?_) (fun hS=>?_))))
  ·exact zL 1 (zK (zT (a_ (zL 3 (aq hS (fun eZ lG hS=>fW 64 [0,1] (nT (aV hd rfl) lG) (nL hS hQ)))))))
  ·refine zL 1 (zK (zF (zS (zL 1 (sB 67 hS (fun hS=>?_) (fun hS=>?_))))))
   ·exact zL 1 (zK (zT (a_ (zL 1 (aq hS (fun dx ju hS=>fW 69 [0,1] (zg (aV hd rfl) ju) (nL hS hQ)))))))
   ·refine zL 1 (zK (zF (zS (zL 5 (sB 76 hS (fun hS=>?_) (fun hS=>?_))))))
    ·exact zL 1 (zK (zT (a_ (zL 2 (aq hS (fun f_ lH hS=>fW 79 [0,1] (apQ (aV hd rfl) lH) (nL hS hQ)))))))
    ·exact zL 1 (zK (zF (a_ (zL 2 (aq hS (fun gb nN hS=>fW 49 [0,1] (apR (aV hd rfl) nN) (nL hS hQ)))))))
def Yf(a1 a2 a3:Int)(a4 a5 a6:S8)(a7:List aM)(kC:Bool):St:=⟨(up (up (up (up u0 1000001 .un) 22 (dB kC)) 1 (dI a1)) 0 (pt 0)),(up (up h0 1 ⟨1,some (.own 248 6 (bD.cells a7))⟩) 0 ⟨0,some (.box ((dI a2)::((dI a3)::((.d (.str a4))::((.d (.str a5))::((.d (.str a6))::((.r (.aL 1 1 0 a7.length)):: [])))))))⟩)⟩
def qh(a1 a2 a3:Int)(a4 a5 a6:S8)(a7:List aM)(kC:Bool):Option (Int×Int×S8×S8×S8×(List aM)):=(bif kC then (bif (decide (a1=92)) then (bif (decide (a2=8)) then ((f179 (aM.mk 5 0 0 ([]) ([]) a6) a2 a3 a4 a5 a6 a7).bind fun z20=>((f180 0 z20.1 z20.2.1 z20.2.2.1 z20.2.2.2.1 z20.2.2.2.2.1 z20.2.2.2.2.2).bind fun z21=>(some (z21.1,0,[],[],[],z21.2)))) else ((f179 (aM.mk 6 0 0 ([]) ([]) ([])) a2 a3 a4 a5 a6 a7).bind fun z22=>((f180 0 z22.1 z22.2.1 z22.2.2.1 z22.2.2.2.1 z22.2.2.2.2.1 z22.2.2.2.2.2).bind fun z23=>(some (z23.1,0,[],[],[],z23.2))))) else ((f181 1 a2 a3 a4 a5 a6 a7).bind fun z24=>(vH a1 a2 a3 a4 a5 a6 a7 z24.1 0 [] [] [] z24.2))) else (vH a1 a2 a3 a4 a5 a6 a7 a2 a3 a4 a5 a6 a7))
theorem zh(hd:5≤d){a1 a2 a3:Int}{a4 a5 a6:S8}{a7:List aM}{r:Int×Int×S8×S8×S8×(List aM)}(hQ:FQ (EE r) Q){kC:Bool}(hS:qh a1 a2 a3 a4 a5 a6 a7 kC=some r): ∀st,au [0,1,22,1000001] [(0,.id 0),(1,.id 1)] [] st=Yf a1 a2 a3 a4 a5 a6 a7 kC→ZX d Q aa2 [.blk 0,.seq Im] st:=by
 intro st he
 refine av he ?_
 unfold qh at hS
 refine sR 22 hS (fun hS=>?_) (fun hS=>?_)
 ·refine zT (aC (zS (zL 1 (sB 26 hS (fun hS=>?_) (fun hS=>?_)))))
  ·refine zK (zT (zS (zL 3 (zK (aC (zS (zL 5 (sB 33 hS (fun hS=>?_) (fun hS=>?_)))))))))
   ·exact zK (zT (a_ (zL 7 (zK (zS (zL 2 (aq hS (fun z20 qN hS=>fW 42 [0,1] (nT (aV hd rfl) qN) (zK (zS (zL 1 (aq hS (fun z21 p_ hS=>fW 44 [0,1] (qg (aV hd rfl) p_) (nL hS hQ))))))))))))))
   ·exact zK (zF (fV (cq (zS (zL 2 (aq hS (fun z22 GJ hS=>fW 42 [0,1] (nT (aV hd rfl) GJ) (zK (zS (zL 1 (aq hS (fun z23 y5 hS=>fW 44 [0,1] (qg (aV hd rfl) y5) (nL hS hQ)))))))))))))
  ·exact zK (zF (fV (cq (a_ (zL 1 (aq hS (fun z24 qO hS=>fW 46 [0,1] (zg (aV hd rfl) qO) (jL (G1 hd hQ hS)))))))))
 ·exact jR (G1 hd hQ hS)
def Yg(a1 a2 a3:Int)(a4 a5 a6:S8)(a7:List aM)(iX:Bool):St:=⟨(up (up (up (up (up u0 1000001 .un) 16 (dB iX)) 15 (dI a2)) 1 (dI a1)) 0 (pt 0)),(up (up h0 1 ⟨1,some (.own 248 6 (bD.cells a7))⟩) 0 ⟨0,some (.box ((dI a2)::((dI a3)::((.d (.str a4))::((.d (.str a5))::((.d (.str a6))::((.r (.aL 1 1 0 a7.length)):: [])))))))⟩)⟩
def qi(a1 a2 a3:Int)(a4 a5 a6:S8)(a7:List aM)(iX:Bool):Option (Int×Int×S8×S8×S8×(List aM)):=(bif iX then ((f178 a1 a2 a3 a4 a5 a6 a7).bind fun gS=>(some (gS.1,gS.2.1,gS.2.2.1,gS.2.2.2.1,gS.2.2.2.2.1,gS.2.2.2.2.2))) else (bif (decide (a2=8)) then (qh a1 a2 a3 a4 a5 a6 a7 true) else (bif (decide (a2=10)) then (qh a1 a2 a3 a4 a5 a6 a7 true) else (qh a1 a2 a3 a4 a5 a6 a7 false))))
theorem zi(hd:5≤d){a1 a2 a3:Int}{a4 a5 a6:S8}{a7:List aM}{r:Int×Int×S8×S8×S8×(List aM)}(hQ:FQ (EE r) Q){iX:Bool}(hS:qi a1 a2 a3 a4 a5 a6 a7 iX=some r): ∀st,au [0,1,15,16,1000001] [(0,.id 0),(1,.id 1)] [] st=Yg a1 a2 a3 a4 a5 a6 a7 iX→ZX d Q aa3 [.blk 0,.seq Im] st:=by
 intro st he
 refine av he ?_
 unfold qi at hS
 refine sR 16 hS (fun hS=>?_) (fun hS=>?_)
 ·exact zT (zS (zL 2 (aq hS (fun gS qM hS=>fW 21 [0,1] (apO (aV hd rfl) qM) (nL hS hQ)))))
 ·refine zF (aC (zS (sB 23 hS (fun hS=>?_) (fun hS=>?_))))
  ·exact jL (zh hd hQ hS)
  ·refine zL 1 (zK (zF (a_ (sB 24 hS (fun hS=>?_) (fun hS=>?_)))))
   ·exact zL 1 (zK (zh hd hQ hS _ (by kernel_rfl)))
   ·exact jL (zh hd hQ hS)
def Yh(a1 a2 a3:Int)(a4 a5 a6:S8)(a7:List aM):St:=⟨(up (up (up u0 1000001 .un) 1 (dI a1)) 0 (pt 0)),(up (up h0 1 ⟨1,some (.own 248 6 (bD.cells a7))⟩) 0 ⟨0,some (.box ((dI a2)::((dI a3)::((.d (.str a4))::((.d (.str a5))::((.d (.str a6))::((.r (.aL 1 1 0 a7.length)):: [])))))))⟩)⟩
def EF(a1 a2 a3:Int)(a4 a5 a6:S8)(a7:List aM):Option (Int×Int×S8×S8×S8×(List aM)):=(bif (decide (a2=7)) then (qi a1 a2 a3 a4 a5 a6 a7 true) else (bif (decide (a2=9)) then (qi a1 a2 a3 a4 a5 a6 a7 true) else (qi a1 a2 a3 a4 a5 a6 a7 false)))
theorem Uf(hd:5≤d){a1 a2 a3:Int}{a4 a5 a6:S8}{a7:List aM}{r:Int×Int×S8×S8×S8×(List aM)}(hQ:FQ (EE r) Q)(hS:EF a1 a2 a3 a4 a5 a6 a7=some r): ∀st,au [0,1,1000001] [(0,.id 0),(1,.id 1)] [] st=Yh a1 a2 a3 a4 a5 a6 a7→ZX d Q aa4 [] st:=by
 intro st he
 refine av he ?_
 unfold EF at hS
 refine aC (zS (zL 5 (zK (bw (aC (zS (sB 17 hS (fun hS=>?_) (fun hS=>?_))))))))
 ·exact jL (zi hd hQ hS)
 ·refine zL 1 (zK (zF (a_ (sB 18 hS (fun hS=>?_) (fun hS=>?_)))))
  ·exact zL 1 (zK (zi hd hQ hS _ (by kernel_rfl)))
  ·exact jL (zi hd hQ hS)
def f144(a1 a2 a3:Int)(a4 a5 a6:S8)(a7:List aM):Option (Int×Int×S8×S8×S8×(List aM)):=(bif (decide (a1<0)) then (some (a2,a3,a4,a5,a6,a7)) else (bif (decide (1114111<a1)) then (some (a2,a3,a4,a5,a6,a7)) else (EF a1 a2 a3 a4 a5 a6 a7)))
theorem apS{d:Nat}(hd:5≤d){a1 a2 a3:Int}{a4 a5 a6:S8}{a7:List aM}{r:Int×Int×S8×S8×S8×(List aM)}(hS:f144 a1 a2 a3 a4 a5 a6 a7=some r):bZ ay aX d 144 [(pt 0),(dI a1)] [(.box ((dI a2)::((dI a3)::((.d (.str a4))::((.d (.str a5))::((.d (.str a6))::((.r (.aL 1 0 0 a7.length)):: []))))))),(.own 248 6 (bD.cells a7))]=some ((.bH []),[(.box ((dI r.1)::((dI r.2.1)::((.d (.str r.2.2.1))::((.d (.str r.2.2.2.1))::((.d (.str r.2.2.2.2.1))::((.r (.aL 1 0 0 r.2.2.2.2.2.length)):: []))))))),(.own 248 6 (bD.cells r.2.2.2.2.2))]):=by
 refine cI hd (fun Q hQ=>?_) afT
 unfold f144 at hS
 show ZR _ Q aa5 [] _
 replace hQ:FQ (EE r) Q:=hQ
 refine aC (zS (zL 1 (sB 6 hS (fun hS=>?_) (fun hS=>?_))))
 ·exact nL hS hQ
 ·refine zL 2 (sB 9 hS (fun hS=>?_) (fun hS=>?_))
  ·exact nL hS hQ
  ·exact jL (Uf hd hQ hS)
/- farwriter/parse.Feed -/
def ahO(MH:aS)(qG:List aM)(sO:Int):St:=⟨(up (up (up u0 6 (dI sO)) 5 (.r (.aL 338 0 0 qG.length))) 4 (pt 40)),(up (up h0 338 ⟨0,some (.own 248 6 (bD.cells qG))⟩) 40 ⟨0,some (.box (sx MH))⟩)⟩
theorem OI{MH:aS}{qG:List aM}{sO:Int}:cN (ahO MH qG sO) 0 Th.res=some ((.bH [(.agg (sx MH)),(.r (.own 0 248 6 qG.length (bD.cells qG))),(dI sO)]),[]):=by
 exact iP (ids:= []) (ids':= [338]) (l:= [(.agg (sx MH)),(.r (.aL 338 0 0 qG.length)),(dI sO)]) (by kernel_rfl) (by kernel_rfl) (CO (aO rfl (aO (g_ bD (e:=248) (k:=6) (xs:=qG) (by kernel_rfl) rfl rfl rfl rfl) (aO rfl nH))))
def Rg(r:aS×(List aM)×Int)(e:PX)(st:St):Prop:=aU Th 0 ((.bH [(.agg (sx r.1)),(.r (.own 0 248 6 r.2.1.length (bD.cells r.2.1))),(dI r.2.2)]),[]) e st
def Yi(a1:aS)(a2:List Int)(fS iY:Int)(iF iG fe:S8)(jk:List aM):St:=⟨(up (up u0 8 (pt 160)) 4 (pt 40)),(up (up (up h0 337 ⟨0,some (.own 248 6 (bD.cells jk))⟩) 160 ⟨0,some (.box ((dI fS)::((dI iY)::((.d (.str iF))::((.d (.str iG))::((.d (.str fe))::((.r (.aL 337 0 0 jk.length)):: [])))))))⟩) 40 ⟨0,some (.box DO)⟩)⟩
def EG(a1:aS)(a2:List Int)(fS iY:Int)(iF iG fe:S8)(jk:List aM):Option (aS×(List aM)×Int):=(some ((aS.mk fS iY iF iG fe),jk,0))
theorem Ug(hd:6≤d){a1:aS}{a2:List Int}{r:aS×(List aM)×Int}(hQ:FQ (Rg r) Q){fS iY:Int}{iF iG fe:S8}{jk:List aM}(hS:EG a1 a2 fS iY iF iG fe jk=some r): ∀st,au [4,8] [(40,.id 40),(160,.id 160),(337,.id 337)] [] st=Yi a1 a2 fS iY iF iG fe jk→ZX d Q aa_ [] st:=by
 intro st he
 refine av he ?_
 unfold EG at hS
 exact aC (cG (cy 11 (fG (cq (cL (bg (dW hS hQ (fR OI))))))))
def Yj(a1:aS)(a2:List Int)(x:Int×Int×S8×S8×S8×(List aM)×Int):St:=⟨(up (up (up (up (up u0 22 (dI x.2.2.2.2.2.2)) 21 (dI (a2.length:Int))) 20 (dL a2)) 8 (pt 160)) 4 (pt 40)),(up (up (up h0 337 ⟨0,some (.own 248 6 (bD.cells x.2.2.2.2.2.1))⟩) 160 ⟨0,some (.box ((dI x.1)::((dI x.2.1)::((.d (.str x.2.2.1))::((.d (.str x.2.2.2.1))::((.d (.str x.2.2.2.2.1))::((.r (.aL 337 0 0 x.2.2.2.2.2.1.length)):: [])))))))⟩) 40 ⟨0,some (.box DO)⟩)⟩
def sU(a1:aS)(a2:List Int)(x:Int×Int×S8×S8×S8×(List aM)×Int)(st:St):Prop:=au [4,8,20,21,22] [(40,.id 40),(160,.id 160),(337,(.cell 160 5))] [.cell 160 5 337 248 6] st=Yj a1 a2 x
def B7(a1:aS)(a2:List Int)(HR lS:Int)(en gA C1:S8)(q9:List aM):St:=⟨(up (up u0 8 (pt 160)) 4 (pt 40)),(up (up (up h0 337 ⟨0,some (.own 248 6 (bD.cells q9))⟩) 160 ⟨0,some (.box ((dI HR)::((dI lS)::((.d (.str en))::((.d (.str gA))::((.d (.str C1))::((.r (.aL 337 0 0 q9.length)):: [])))))))⟩) 40 ⟨0,some (.box DO)⟩)⟩
def xw(a1:aS)(a2:List Int)(z:(Int×Int×S8×S8×S8×(List aM)))(e:PX)(st:St):Prop:=e= .exit 0∧st=B7 a1 a2 z.1 z.2.1 z.2.2.1 z.2.2.2.1 z.2.2.2.2.1 z.2.2.2.2.2
def MI(a1:aS)(a2:List Int)(C0 wY:Int)(vh F_ Ga:S8)(Yk:List aM)(Rh:Int):St:=⟨(up (up (up (up (up u0 22 (dI Rh)) 21 (dI (a2.length:Int))) 20 (dL a2)) 8 (pt 160)) 4 (pt 40)),(up (up (up h0 337 ⟨0,some (.own 248 6 (bD.cells Yk))⟩) 160 ⟨0,some (.box ((dI C0)::((dI wY)::((.d (.str vh))::((.d (.str F_))::((.d (.str Ga))::((.r (.aL 337 0 0 Yk.length)):: [])))))))⟩) 40 ⟨0,some (.box DO)⟩)⟩
def tW(a1:aS)(a2:List Int)(C0 wY:Int)(vh F_ Ga:S8)(Yk:List aM)(Rh:Int):Option ((Int×Int×S8×S8×S8×(List aM)×Int)⊕((Int×Int×S8×S8×S8×(List aM)))):=((idx a2 Rh).bind fun z9=>((f144 z9 C0 wY vh F_ Ga Yk).bind fun dh=>(some (.inl (dh.1,dh.2.1,dh.2.2.1,dh.2.2.2.1,dh.2.2.2.2.1,dh.2.2.2.2.2,(IntKind.i64.wrap (Rh+1)))))))
theorem KU(hd:6≤d){a1:aS}{a2:List Int}{r:(Int×Int×S8×S8×S8×(List aM)×Int)⊕((Int×Int×S8×S8×S8×(List aM)))}(hQ:FQ (bG (sU a1 a2) (xw a1 a2) r) Q){C0 wY:Int}{vh F_ Ga:S8}{Yk:List aM}{Rh:Int}(hS:tW a1 a2 C0 wY vh F_ Ga Yk Rh=some r): ∀st,au [4,8,20,21,22] [(40,.id 40),(160,.id 160),(337,.id 337)] [] st=MI a1 a2 C0 wY vh F_ Ga Yk Rh→ZX d Q aa7 [] st:=by
 intro st he
 refine av he ?_
 unfold tW at hS
 exact aC (bw (zS (aq hS (fun z9 jF hS=>zO (v:=(.cD (eI.enc z9++(eI.cells (a2.drop ((Rh:Int).toNat+1)))))) (aD:= []) (some 24) (.jc 3 1 (tm 20) (tm 22)) (eY eI (kk:= .i64) (xs:=a2) (j:=Rh) (by kernel_rfl) (by kernel_rfl) jF rfl (by intro h;cases h)) (zL 2 (zK (a_ (zL 2 (aq hS (fun dh iT hS=>fW 28 [160,337] (apS (aV hd rfl) iT) (lL hS hQ)))))))))))
def MJ(a1:aS)(a2:List Int)(fj gf:Int)(jH iX iw:S8)(Bt:List aM)(kC:Int)(H6:Bool):St:=⟨(up (up (up (up (up (up u0 23 (dB H6)) 22 (dI kC)) 21 (dI (a2.length:Int))) 20 (dL a2)) 8 (pt 160)) 4 (pt 40)),(up (up (up h0 337 ⟨0,some (.own 248 6 (bD.cells Bt))⟩) 160 ⟨0,some (.box ((dI fj)::((dI gf)::((.d (.str jH))::((.d (.str iX))::((.d (.str iw))::((.r (.aL 337 0 0 Bt.length)):: [])))))))⟩) 40 ⟨0,some (.box DO)⟩)⟩
def mX(a1:aS)(a2:List Int)(fj gf:Int)(jH iX iw:S8)(Bt:List aM)(kC:Int)(H6:Bool):Option ((Int×Int×S8×S8×S8×(List aM)×Int)⊕((Int×Int×S8×S8×S8×(List aM)))):=(bif H6 then (tW a1 a2 fj gf jH iX iw Bt kC) else (some (.inr (fj,gf,jH,iX,iw,Bt))))
theorem zj(hd:6≤d){a1:aS}{a2:List Int}{r:(Int×Int×S8×S8×S8×(List aM)×Int)⊕((Int×Int×S8×S8×S8×(List aM)))}(hQ:FQ (bG (sU a1 a2) (xw a1 a2) r) Q){fj gf:Int}{jH iX iw:S8}{Bt:List aM}{kC:Int}{H6:Bool}(hS:mX a1 a2 fj gf jH iX iw Bt kC H6=some r): ∀st,au [4,8,20,21,22,23] [(40,.id 40),(160,.id 160),(337,.id 337)] [] st=MJ a1 a2 fj gf jH iX iw Bt kC H6→ZX d Q aa8 [] st:=by
 intro st he
 refine av he ?_
 unfold mX at hS
 refine aC (sR 23 hS (fun hS=>?_) (fun hS=>?_))
 ·exact jR (KU hd hQ hS)
 ·exact zF (av (J:=B7 a1 a2 fj gf jH iX iw Bt) (by kernel_rfl) (cX (cV (bg (jw hS hQ)))))
def vI(a1:aS)(a2:List Int)(x:Int×Int×S8×S8×S8×(List aM)×Int):Option ((Int×Int×S8×S8×S8×(List aM)×Int)⊕((Int×Int×S8×S8×S8×(List aM)))):=(bif (decide (x.2.2.2.2.2.2<(a2.length:Int))) then (mX a1 a2 x.1 x.2.1 x.2.2.1 x.2.2.2.1 x.2.2.2.2.1 x.2.2.2.2.2.1 x.2.2.2.2.2.2 true) else (mX a1 a2 x.1 x.2.1 x.2.2.1 x.2.2.2.1 x.2.2.2.2.1 x.2.2.2.2.2.1 x.2.2.2.2.2.2 false))
theorem Uh(hd:6≤d){a1:aS}{a2:List Int}{r:(Int×Int×S8×S8×S8×(List aM)×Int)⊕((Int×Int×S8×S8×S8×(List aM)))}(hQ:FQ (bG (sU a1 a2) (xw a1 a2) r) Q){x:Int×Int×S8×S8×S8×(List aM)×Int}(hS:vI a1 a2 x=some r)(he:sU a1 a2 x st):ZX d Q aa9 [] st:=by
 refine av he ?_
 unfold vI at hS
 refine zS (sB 23 hS (fun hS=>?_) (fun hS=>?_))
 ·exact zK (zj hd hQ hS _ (by kernel_rfl))
 ·exact jL (zj hd hQ hS)
def Yl(a1:aS)(a2:List Int):St:=⟨(up (up (up u0 4 (pt 40)) 2 (pt 24)) 1 (dL a2)),(up (up h0 40 ⟨0,some (.box DO)⟩) 24 ⟨0,some (.box (sx a1))⟩)⟩
def EH(a1:aS)(a2:List Int):Option (aS×(List aM)×Int):=((b9 (vI a1 a2) (a1.State,a1.Mark,a1.Inter,a1.Args,a1.Text,[],0)).bind fun cM=>(EG a1 a2 cM.1 cM.2.1 cM.2.2.1 cM.2.2.2.1 cM.2.2.2.2.1 cM.2.2.2.2.2))
theorem Ui(hd:6≤d){a1:aS}{a2:List Int}{r:aS×(List aM)×Int}(hQ:FQ (Rg r) Q)(hS:EH a1 a2=some r): ∀st,au [1,2,4] [(24,.id 24),(40,.id 40)] [] st=Yl a1 a2→ZX d Q aba [] st:=by
 intro st he
 refine av he ?_
 unfold EH at hS
 refine zS (zL 4 (zK (aC (zS (zL 3 (zK (bw (aq hS (fun cM jN hS=>dF (sU a1 a2) (xw a1 a2) (fun x st r Q h0 hS hQ=>Uh hd hQ hS h0) (x:=(a1.State,a1.Mark,a1.Inter,a1.Args,a1.Text,[],0)) (z:=cM) (by show au _ _ _ _=_;kernel_rfl) jN ?_)))))))))
 intro e bl _ hX
 obtain ⟨rfl,rfl⟩:_∧_:=hX
 exact jK (Ug hd hQ hS)
def f107(a1:aS)(a2:List Int):Option (aS×(List aM)×Int):=((f21 a1).bind fun z12=>(bif (!decide (z12=0)) then (some (a1,[],z12)) else (EH a1 a2)))
theorem apT{d:Nat}(hd:6≤d){a1:aS}{a2:List Int}{r:aS×(List aM)×Int}(hS:f107 a1 a2=some r):bZ ay aX d 107 [(.agg (sx a1)),(dL a2)] []=some ((.bH [(.agg (sx r.1)),(.r (.own 0 248 6 r.2.1.length (bD.cells r.2.1))),(dI r.2.2)]),[]):=by
 refine cI hd (fun Q hQ=>?_) afL
 unfold f107 at hS
 show ZR _ Q abb [] _
 replace hQ:FQ (Rg r) Q:=hQ
 refine zS (zL 4 (zK (aC (zS (zL 1 (aq hS (fun z12 gG hS=>zC 12 (adX (aV hd rfl) gG) (zL 1 (zK (zS (zL 1 (sB 14 hS (fun hS=>?_) (fun hS=>?_)))))))))))))
 ·exact zK (zT (zS (zL 5 (zK (cL (bQ (bg (dW hS hQ (fR OI)))))))))
 ·exact jL (Ui hd hQ hS)
/- farwriter/screen.actions$1 -/
def awg(r:Bool)(e:PX)(st:St):Prop:=aU abd 0 ((dB r),[]) e st
def f186(a1:Int):Option (Bool):=((f58 a1 (-1) 16383).bind fun z2=>(some (!z2)))
theorem apV{d:Nat}(hd:2≤d){a1:Int}{r:Bool}(hS:f186 a1=some r):bZ ay aX d 186 [(dI a1)] []=some ((dB r),[]):=by
 refine cI hd (fun Q hQ=>?_) af7
 unfold f186 at hS
 show ZR _ Q abc [] _
 replace hQ:FQ (awg r) Q:=hQ
 exact zS (zL 1 (zK (zS (zL 1 (aq hS (fun z2 hz2 hS=>zC 4 (q8 (aV hd rfl) hz2) (nL hS hQ)))))))
/- slices.IndexFunc[[]int,int] -/
def OJ(p8:Int):St:=⟨(up u0 4 (dI p8)),h0⟩
theorem ahP{p8:Int}:cN (OJ p8) 0 Kb.res=some ((dI p8),[]):=by
 kernel_rfl
def awh(r:Int)(e:PX)(st:St):Prop:=aU Kb 0 ((dI r),[]) e st
def Ym(a1:List Int)(x:Int):St:=⟨(up (up (up (up u0 8 (dI x)) 7 (dI (a1.length:Int))) 1 (.fn 186 [])) 0 (dL a1)),h0⟩
def sV(a1:List Int)(x:Int)(st:St):Prop:=au [0,1,7,8] [] [] st=Ym a1 x
def B8(a1:List Int):St:=⟨u0,h0⟩
def xx(a1:List Int)(z:Unit⊕Int)(e:PX)(st:St):Prop:=(match z with | .inl z=>e= .exit 0∧st=B8 a1 | .inr z=>e= .ret∧dV Kb.fin st=OJ z)
def MK(a1:List Int)(fH:Int):St:=⟨(up (up (up (up u0 8 (dI fH)) 7 (dI (a1.length:Int))) 1 (.fn 186 [])) 0 (dL a1)),h0⟩
def tX(a1:List Int)(fH:Int):Option (Int⊕(Unit⊕Int)):=((idx a1 fH).bind fun z7=>((f186 z7).bind fun z8=>(bif z8 then (some (.inr (.inr fH))) else (some (.inl (IntKind.i64.wrap (fH+1)))))))
theorem KV(hd:3≤d){a1:List Int}{r:Int⊕(Unit⊕Int)}(hQ:FQ (bG (sV a1) (xx a1) r) Q){fH:Int}(hS:tX a1 fH=some r): ∀st,au [0,1,7,8] [] [] st=MK a1 fH→ZX d Q abe [] st:=by
 intro st he
 refine av he ?_
 unfold tX at hS
 refine aC (bw (zS (zL 2 (zK (zS (zL 3 (aq hS (fun z7 kO hS=>zO (v:=(.cD (eI.enc z7++(eI.cells (a1.drop ((fH:Int).toNat+1)))))) (aD:= []) (some 14) (.jc 3 1 (tm 12) (tm 13)) (eY eI (kk:= .i64) (xs:=a1) (j:=fH) (by kernel_rfl) (by kernel_rfl) kO rfl (by intro h;cases h)) (zL 1 (aq hS (fun z8 iW hS=>zO (v:=(dB z8)) (aD:= []) (some 16) (.lM (tm 11) [(tm 15)]) (ox (f:=186) (cs:= []) (by kernel_rfl) (args:= [(dI z7)]) (l:= [(dI z7)]) (r:=(dB z8)) (by kernel_rfl) (by kernel_rfl) (apV (aV hd rfl) iW) (by kernel_rfl) (by kernel_rfl) (by kernel_rfl)) (zK (sR 16 hS (fun hS=>?_) (fun hS=>?_))))))))))))))
 ·exact zT (zS (zL 2 (zK (cL (cj (bQ (bg (mG hS hQ))))))))
 ·exact lR hS hQ
def ML(a1:List Int)(nM:Int)(uW:Bool):St:=⟨(up (up (up (up (up u0 9 (dB uW)) 8 (dI nM)) 7 (dI (a1.length:Int))) 1 (.fn 186 [])) 0 (dL a1)),h0⟩
def mY(a1:List Int)(nM:Int)(uW:Bool):Option (Int⊕(Unit⊕Int)):=(bif uW then (tX a1 nM) else (some (.inr (.inl ()))))
theorem zk(hd:3≤d){a1:List Int}{r:Int⊕(Unit⊕Int)}(hQ:FQ (bG (sV a1) (xx a1) r) Q){nM:Int}{uW:Bool}(hS:mY a1 nM uW=some r): ∀st,au [0,1,7,8,9] [] [] st=ML a1 nM uW→ZX d Q abf [] st:=by
 intro st he
 refine av he ?_
 unfold mY at hS
 refine aC (sR 9 hS (fun hS=>?_) (fun hS=>?_))
 ·exact jR (KV hd hQ hS)
 ·exact zF (av (J:=B8 a1) (by kernel_rfl) (cX (cV (bg (jw hS hQ)))))
def vJ(a1:List Int)(x:Int):Option (Int⊕(Unit⊕Int)):=(bif (decide (x<(a1.length:Int))) then (mY a1 x true) else (mY a1 x false))
theorem Uj(hd:3≤d){a1:List Int}{r:Int⊕(Unit⊕Int)}(hQ:FQ (bG (sV a1) (xx a1) r) Q){x:Int}(hS:vJ a1 x=some r)(he:sV a1 x st):ZX d Q abg [] st:=by
 refine av he ?_
 unfold vJ at hS
 refine zS (sB 9 hS (fun hS=>?_) (fun hS=>?_))
 ·exact zK (zk hd hQ hS _ (by kernel_rfl))
 ·exact jL (zk hd hQ hS)
def f210(a1:List Int):Option (Int):=((b9 (vJ a1) 0).bind fun z9=>(Sum.elim (fun dh=>(some (-1))) (fun cM=>(some cM)) z9))
theorem apW{d:Nat}(hd:3≤d){a1:List Int}{r:Int}(hS:f210 a1=some r):bZ ay aX d 210 [(dL a1),(.fn 186 [])] []=some ((dI r),[]):=by
 refine cI hd (fun Q hQ=>?_) agf
 unfold f210 at hS
 show ZR _ Q abh [] _
 replace hQ:FQ (awh r) Q:=hQ
 refine zS (zL 1 (zK (aC (zS (zL 3 (zK (bw (aq hS (fun z9 jF hS=>dF (sV a1) (xx a1) (fun x st r Q h0 hS hQ=>Uj hd hQ hS h0) (x:=0) (z:=z9) (by show au _ _ _ _=_;kernel_rfl) jF ?_)))))))))
 rcases z9 with dh | cM
 ·replace hS:=(show _=_ from hS)
  simp only [tD] at hS
  intro e bl _ hX
  obtain ⟨rfl,rfl⟩:_∧_:=hX
  exact nK hS hQ
 ·simp only [tE] at hS
  intro e bl _ hX
  obtain ⟨rfl,hX⟩:_∧_:=hX
  exact cj (bQ (bg (dW hS hQ (je (by kernel_rfl) ((congrArg (fun s=>cN s 0 Kb.res) hX).trans ahP)))))
/- slices.ContainsFunc[[]int,int] -/
def awi(r:Bool)(e:PX)(st:St):Prop:=aU abk 0 ((dB r),[]) e st
def f185(a1:List Int):Option (Bool):=((f210 a1).bind fun z2=>(bif (decide (0≤z2)) then (some true) else (some false)))
theorem apX{d:Nat}(hd:4≤d){a1:List Int}{r:Bool}(hS:f185 a1=some r):bZ ay aX d 185 [(dL a1),(.fn 186 [])] []=some ((dB r),[]):=by
 refine cI hd (fun Q hQ=>?_) af6
 unfold f185 at hS
 show ZR _ Q abj [] _
 replace hQ:FQ (awi r) Q:=hQ
 refine zS (zL 1 (zK (zS (zL 2 (aq hS (fun z2 hz2 hS=>zC 7 (apW (aV hd rfl) hz2) (sB 8 hS (fun hS=>?_) (fun hS=>?_))))))))
 ·exact nL hS hQ
 ·exact nL hS hQ
/- farwriter/screen.actions -/
def OL(jZ:Int):St:=⟨(up u0 2 (dI jZ)),h0⟩
theorem ahQ{jZ:Int}:cN (OL jZ) 0 Kc.res=some ((dI jZ),[]):=by
 kernel_rfl
def awj(r:Int)(e:PX)(st:St):Prop:=aU Kc 0 ((dI r),[]) e st
def Yn(a1:List aM)(x:Int):St:=⟨(up (up (up u0 7 (dI x)) 6 (dI (a1.length:Int))) 5 (dE bD a1)),h0⟩
def sW(a1:List aM)(x:Int)(st:St):Prop:=au [5,6,7] [] [] st=Yn a1 x
def B9(a1:List aM):St:=⟨u0,h0⟩
def xy(a1:List aM)(z:Unit⊕Int)(e:PX)(st:St):Prop:=(match z with | .inl z=>e= .exit 0∧st=B9 a1 | .inr z=>e= .ret∧dV Kc.fin st=OL z)
def MN(a1:List aM)(fI:Int):St:=⟨(up (up (up u0 7 (dI fI)) 6 (dI (a1.length:Int))) 5 (dE bD a1)),h0⟩
def tY(a1:List aM)(fI:Int):Option (Int⊕(Unit⊕Int)):=((idx a1 fI).bind fun z7=>(bif (decide (32<(z7.Args.length:Int))) then (some (.inr (.inr 1))) else (bif (decide (256<(z7.Text.length:Int))) then (some (.inr (.inr 1))) else ((f185 z7.Args).bind fun z8=>(bif z8 then (some (.inr (.inr 1))) else (some (.inl (IntKind.i64.wrap (fI+1)))))))))
theorem KW(hd:5≤d){a1:List aM}{r:Int⊕(Unit⊕Int)}(hQ:FQ (bG (sW a1) (xy a1) r) Q){fI:Int}(hS:tY a1 fI=some r): ∀st,au [5,6,7] [] [] st=MN a1 fI→ZX d Q abl [] st:=by
 intro st he
 refine av he ?_
 unfold tY at hS
 refine aC (bw (zS (aq hS (fun z7 kO hS=>zO (v:=(.cD (bD.enc z7++(bD.cells (a1.drop ((fI:Int).toNat+1)))))) (aD:= []) (some 9) (.jc 248 6 (tm 5) (tm 7)) (eY bD (kk:= .i64) (xs:=a1) (j:=fI) (by kernel_rfl) (by kernel_rfl) kO rfl (by intro h;cases h)) (zL 3 (zK (zS (zL 3 (sB 14 hS (fun hS=>?_) (fun hS=>?_))))))))))
 ·exact zL 11 (zK (zT (zS (zL 1 (zK (cL (cj (bQ (bg (mG hS hQ))))))))))
 ·refine zL 4 (sB 19 hS (fun hS=>?_) (fun hS=>?_))
  ·exact zL 6 (zK (zT (zS (zL 1 (zK (cL (cj (bQ (bg (mG hS hQ))))))))))
  ·refine zL 4 (aq hS (fun z8 iW hS=>zG (some 24) 21 false (.call 185 [(tm 23),(.func 186)]) (b_ (apX (aV hd rfl) iW)) (zL 1 (zK (sR 25 hS (fun hS=>?_) (fun hS=>?_))))))
   ·exact zT (zS (zL 1 (zK (cL (cj (bQ (bg (mG hS hQ))))))))
   ·exact lR hS hQ
def MO(a1:List aM)(iM:Int)(kg:Bool):St:=⟨(up (up (up (up u0 8 (dB kg)) 7 (dI iM)) 6 (dI (a1.length:Int))) 5 (dE bD a1)),h0⟩
def mZ(a1:List aM)(iM:Int)(kg:Bool):Option (Int⊕(Unit⊕Int)):=(bif kg then (tY a1 iM) else (some (.inr (.inl ()))))
theorem zl(hd:5≤d){a1:List aM}{r:Int⊕(Unit⊕Int)}(hQ:FQ (bG (sW a1) (xy a1) r) Q){iM:Int}{kg:Bool}(hS:mZ a1 iM kg=some r): ∀st,au [5,6,7,8] [] [] st=MO a1 iM kg→ZX d Q abm [] st:=by
 intro st he
 refine av he ?_
 unfold mZ at hS
 refine aC (sR 8 hS (fun hS=>?_) (fun hS=>?_))
 ·exact jR (KW hd hQ hS)
 ·exact zF (av (J:=B9 a1) (by kernel_rfl) (cX (cV (bg (jw hS hQ)))))
def zm(a1:List aM)(x:Int):Option (Int⊕(Unit⊕Int)):=(bif (decide (x<(a1.length:Int))) then (mZ a1 x true) else (mZ a1 x false))
theorem Uk(hd:5≤d){a1:List aM}{r:Int⊕(Unit⊕Int)}(hQ:FQ (bG (sW a1) (xy a1) r) Q){x:Int}(hS:zm a1 x=some r)(he:sW a1 x st):ZX d Q abn [] st:=by
 refine av he ?_
 unfold zm at hS
 refine zS (sB 8 hS (fun hS=>?_) (fun hS=>?_))
 ·exact zK (zl hd hQ hS _ (by kernel_rfl))
 ·exact jL (zl hd hQ hS)
def f145(a1:List aM):Option (Int):=((b9 (zm a1) 0).bind fun z9=>(Sum.elim (fun dh=>(some 0)) (fun cM=>(some cM)) z9))
theorem apY{d:Nat}(hd:5≤d){a1:List aM}{r:Int}(hS:f145 a1=some r):bZ ay aX d 145 [(dE bD a1)] []=some ((dI r),[]):=by
 refine cI hd (fun Q hQ=>?_) afU
 unfold f145 at hS
 show ZR _ Q abo [] _
 replace hQ:FQ (awj r) Q:=hQ
 refine zS (zL 1 (zK (aC (zS (zL 3 (zK (bw (aq hS (fun z9 jF hS=>dF (sW a1) (xy a1) (fun x st r Q h0 hS hQ=>Uk hd hQ hS h0) (x:=0) (z:=z9) (by show au _ _ _ _=_;kernel_rfl) jF ?_)))))))))
 rcases z9 with dh | cM
 ·replace hS:=(show _=_ from hS)
  simp only [tD] at hS
  intro e bl _ hX
  obtain ⟨rfl,rfl⟩:_∧_:=hX
  exact nK hS hQ
 ·simp only [tE] at hS
  intro e bl _ hX
  obtain ⟨rfl,hX⟩:_∧_:=hX
  exact cj (bQ (bg (dW hS hQ (je (by kernel_rfl) ((congrArg (fun s=>cN s 0 Kc.res) hX).trans ahQ)))))
end
end Go.Proofs.YtimbfadnabfabaaGreatDoor.Pm
