/- Typed functions, and that the codes are these. Printed by dec.py. -/
import Derived.Test.YtimbfadnabfabaaGreatDoorDMoI
namespace Go.Proofs.YtimbfadnabfabaaGreatDoor.Pm
noncomputable section
set_option maxRecDepth 1000000
set_option maxHeartbeats 20000000
set_option linter.unusedVariables false
set_option linter.unusedSimpArgs false
variable {d : Nat} {Q : PQ} {st : St}
/- (*farwriter/screen.terminal).print -/
def tu(r:ag)(e:PX)(st:St):Prop:=aV abc 4 ((.bE []),[(eo r),(aH r.af),(aI r.af),(aM r.af)]) e st
def Ki(a1:Int)(a2 ir:ag)(Ao ko:Int):St:=⟨(up (up (up (SA a2.af) 4 (dI ko)) 1 (dI Ao)) 0 (pt 0)),(kG ir)⟩
def yA(a1:Int)(a2 ir:ag)(Ao ko:Int):Option (ag):=((f217 ir.af.aG.bR ir.af.aG.bV ir.af.Row ir.af.cQ Ao ir.af.cz ir.af.aG.Cells).bind fun pP=>((bO (decide (pP.length=ir.af.aG.Cells.length))).bind fun Th=>(bif (decide ((IntKind.i64.wrap (a2.af.aG.bR-1))<(IntKind.i64.wrap (ir.af.cQ+ko)))) then ((f214 (ag.mk ({ir.af with aG:=(bQ.mk ir.af.aG.bR ir.af.aG.bV pP),cQ:=(IntKind.i64.wrap (ir.af.cQ+ko))}) ir.sent) [] 4).bind fun z44=>(some (ag.mk ({ir.af with aG:=(bQ.mk ir.af.aG.bR ir.af.aG.bV pP),cQ:=(IntKind.i64.wrap (a2.af.aG.bR-1)),eV:=z44}) ir.sent))) else (some (ag.mk ({ir.af with aG:=(bQ.mk ir.af.aG.bR ir.af.aG.bV pP),cQ:=(IntKind.i64.wrap (ir.af.cQ+ko))}) ir.sent)))))
theorem Gd(hd:9≤d){a1:Int}{a2 r:ag}(hQ:FQ (tu r) Q){ir:ag}{Ao ko:Int}(hS:yA a1 a2 ir Ao ko=some r): ∀st,au [0,1,4,5,1000001,1000002,1000003] [(0,.id 0),(1,.id 1),(2,.id 2),(3,.id 3)] [] st=Ki a1 a2 ir Ao ko→ZX d Q aa_ [] st:=by
 intro st he
 refine ay he (aC (cC (cy 21 (aq hS (fun pP NL hS=>aq hS (fun Th NM hS=>dr (some 125) none (.fO 217 [(tm 108),(tm 113),(tm 118),(tm 119),(tm 124)]) (vk [1] [(aH ir.af)] (anw (aU hd rfl) NL) (sW ak (e1:=87) (k1:=4) (xs:=ir.af.aG.Cells) (ys:=pP) (by kernel_rfl) NM qb)) ?_))))))
 have aCA:ir.af.aG.Cells.length=pP.length:=(of_decide_eq_true (gW NM)).symm
 try delta Ki
 try delta ue eo kG mL uf jS lH kV j_ kW
 try delta bS
 try rw [aCA]
 refine fL (cj (zS (zL 11 (zK (zS (zL 6 (sB 142 hS (fun hS=>?_) (fun hS=>?_))))))))
 ·exact zK (zT (a_ (zL 4 (aq hS (fun z44 Ju hS=>zC 147 (si (aU hd rfl) Ju) (nL hS hQ))))))
 ·exact nL hS hQ
def Kj(a1:Int)(a2 h_:ag)(kH eX:Int):St:=⟨(up (up (up (SA a2.af) 4 (dI eX)) 1 (dI kH)) 0 (pt 0)),(kG h_)⟩
def yB(a1:Int)(a2 h_:ag)(kH eX:Int):Option (ag):=((f214 h_ [] 1).bind fun P9=>(bif P9 then ((f216 h_ []).bind fun z46=>((f215 h_.af.aG.bR h_.af.aG.bV h_.af.Row h_.af.cQ h_.af.aG.bR eX z46 h_.af.aG.Cells).bind fun Dv=>((bO (decide (Dv.length=h_.af.aG.Cells.length))).bind fun xD=>(yA a1 a2 (ag.mk ({h_.af with aG:=(bQ.mk h_.af.aG.bR h_.af.aG.bV Dv)}) h_.sent) kH eX)))) else (yA a1 a2 h_ kH eX)))
theorem Ge(hd:9≤d){a1:Int}{a2 r:ag}(hQ:FQ (tu r) Q){h_:ag}{kH eX:Int}(hS:yB a1 a2 h_ kH eX=some r): ∀st,au [0,1,4,5,1000001,1000002,1000003] [(0,.id 0),(1,.id 1),(2,.id 2),(3,.id 3)] [] st=Kj a1 a2 h_ kH eX→ZX d Q Pn [] st:=by
 intro st he
 refine ay he (aC (zS (zL 1 (aq hS (fun P9 Ti hS=>zC 78 (si (aU hd rfl) Ti) (zK (sR 78 hS (fun hS=>?_) (fun hS=>?_))))))))
 ·refine zT (cC (cy 23 (aq hS (fun z46 NN hS=>dr (some 102) none (c1 216 101) (bX (x_ (aU hd rfl) NN)) (aq hS (fun Dv JC hS=>aq hS (fun xD FW hS=>dr (some 103) none (.fO 215 [(tm 83),(tm 88),(tm 93),(tm 99),(tm 100),(tm 102)]) (vk [1] [(aH h_.af)] (TY (aU hd rfl) JC) (sW ak (e1:=87) (k1:=4) (xs:=h_.af.aG.Cells) (ys:=Dv) (by kernel_rfl) FW qb)) ?_)))))))
  have aCB:h_.af.aG.Cells.length=Dv.length:=(of_decide_eq_true (gW FW)).symm
  try delta Kj
  try delta ue eo kG mL uf jS lH kV j_ kW
  try delta bS
  try rw [aCB]
  exact fL (jK (Gd hd hQ hS))
 ·exact jR (Gd hd hQ hS)
def X0(a1:Int)(a2 uA:ag)(Fc Fe:Int):St:=⟨(up (up (up (SA a2.af) 4 (dI Fe)) 1 (dI Fc)) 0 (pt 0)),(kG uA)⟩
def yC(a1:Int)(a2 uA:ag)(Fc Fe:Int):Option (ag):=(yB a1 a2 uA Fc Fe)
theorem Gf(hd:9≤d){a1:Int}{a2 r:ag}(hQ:FQ (tu r) Q){uA:ag}{Fc Fe:Int}(hS:yC a1 a2 uA Fc Fe=some r): ∀st,au [0,1,4,5,1000001,1000002,1000003] [(0,.id 0),(1,.id 1),(2,.id 2),(3,.id 3)] [] st=X0 a1 a2 uA Fc Fe→ZX d Q aa9 [.seq Pn] st:=by
 intro st he
 exact ay he (jR (Ge hd hQ hS))
def X3(a1:Int)(a2 gu:ag)(iJ fe:Int):St:=⟨(up (up (up (SA a2.af) 4 (dI fe)) 1 (dI iJ)) 0 (pt 0)),(kG gu)⟩
def yD(a1:Int)(a2 gu:ag)(iJ fe:Int):Option (ag):=(bif (decide (fe=2)) then (bif (decide (gu.af.cQ=(IntKind.i64.wrap (a2.af.aG.bR-1)))) then ((f214 gu [] 4).bind fun z49=>(bif (!z49) then (some gu) else ((f212 0 gu).bind fun qh=>((bO (decide (qh.af.bn.length=gu.af.bn.length))).bind fun z51=>((bO (decide (qh.af.aT.Cells.length=gu.af.aT.Cells.length))).bind fun Lv=>((bO (decide (qh.af.aG.Cells.length=gu.af.aG.Cells.length))).bind fun z53=>((f213 qh).bind fun E7=>(yB a1 a2 E7 iJ fe)))))))) else (yC a1 a2 gu iJ fe)) else (yC a1 a2 gu iJ fe))
theorem Gg(hd:9≤d){a1:Int}{a2 r:ag}(hQ:FQ (tu r) Q){gu:ag}{iJ fe:Int}(hS:yD a1 a2 gu iJ fe=some r): ∀st,au [0,1,4,5,1000001,1000002,1000003] [(0,.id 0),(1,.id 1),(2,.id 2),(3,.id 3)] [] st=X3 a1 a2 gu iJ fe→ZX d Q aba [] st:=by
 intro st he
 refine ay he (aC (zS (zL 1 (sB 60 hS (fun hS=>?_) (fun hS=>?_)))))
 ·refine zL 7 (sB 68 hS (fun hS=>?_) (fun hS=>?_))
  ·refine zL 1 (zK (zT (aC (zS (zL 1 (aq hS (fun z49 S0 hS=>zC 71 (si (aU hd rfl) S0) (zL 1 (zK (sR 72 hS (fun hS=>?_) (fun hS=>?_)))))))))))
   ·exact nR hS hQ
   ·exact zF (fP (cj (zS (zL 1 (l6 74 (fun _ h=>gQ (aU hd rfl) h) hS (fun qh Ns hS=>zK (a_ (zL 1 (aq hS (fun E7 Jw hS=>fS 76 [0,1,2,3] (yo (aU hd rfl) Jw) (zK (Ge hd hQ hS _ (by kernel_rfl)))))))))))))
  ·exact zL 1 (zK (zF (Gf hd hQ hS _ (by kernel_rfl))))
 ·exact jL (Gf hd hQ hS)
def X4(a1:Int)(a2:ag)(Ce qp:Int):St:=⟨(up (up (up (SA a2.af) 4 (dI qp)) 1 (dI Ce)) 0 (pt 0)),(kG a2)⟩
def D9(a1:Int)(a2:ag)(Ce qp:Int):Option (ag):=(bif a2.af.eV then ((f212 0 a2).bind fun E8=>((bO (decide (E8.af.bn.length=a2.af.bn.length))).bind fun z56=>((bO (decide (E8.af.aT.Cells.length=a2.af.aT.Cells.length))).bind fun WT=>((bO (decide (E8.af.aG.Cells.length=a2.af.aG.Cells.length))).bind fun z58=>((f213 E8).bind fun z59=>(yD a1 a2 z59 Ce qp)))))) else (yD a1 a2 a2 Ce qp))
theorem TZ(hd:9≤d){a1:Int}{a2 r:ag}(hQ:FQ (tu r) Q){Ce qp:Int}(hS:D9 a1 a2 Ce qp=some r): ∀st,au [0,1,4,5,1000001,1000002,1000003] [(0,.id 0),(1,.id 1),(2,.id 2),(3,.id 3)] [] st=X4 a1 a2 Ce qp→ZX d Q abb [] st:=by
 intro st he
 refine ay he (aC (zS (zL 5 (zK (sR 54 hS (fun hS=>?_) (fun hS=>?_))))))
 ·exact zT (zS (zL 1 (l6 56 (fun _ h=>gQ (aU hd rfl) h) hS (fun E8 ab6 hS=>zK (a_ (zL 1 (aq hS (fun z59 Tl hS=>fS 58 [0,1,2,3] (yo (aU hd rfl) Tl) (zK (Gg hd hQ hS _ (by kernel_rfl)))))))))))
 ·exact jR (Gg hd hQ hS)
def X5(a1:Int)(a2:ag)(iQ:Int):St:=⟨(up (up (up (up (up u0 1000003 .un) 1000002 .un) 1000001 .un) 1 (dI iQ)) 0 (pt 0)),(kG a2)⟩
def uN(a1:Int)(a2:ag)(iQ:Int):Option (ag):=((f90 iQ).bind fun z26=>(bif (decide (z26=0)) then (some a2) else (bif (decide (a2.af.aG.bR<z26)) then (some a2) else (D9 a1 a2 iQ z26))))
theorem yE(hd:9≤d){a1:Int}{a2 r:ag}(hQ:FQ (tu r) Q){iQ:Int}(hS:uN a1 a2 iQ=some r): ∀st,au [0,1,1000001,1000002,1000003] [(0,.id 0),(1,.id 1),(2,.id 2),(3,.id 3)] [] st=X5 a1 a2 iQ→ZX d Q Po [] st:=by
 intro st he
 refine ay he (aC (cC (cy 1 (aq hS (fun z26 rH hS=>dr (some 30) none (c1 90 29) (bX (Dn (aU hd rfl) rH)) (cy 9 (fL (cj (aC (zS (zL 1 (sB 39 hS (fun hS=>?_) (fun hS=>?_)))))))))))))
 ·exact nL hS hQ
 ·refine zL 8 (sB 48 hS (fun hS=>?_) (fun hS=>?_))
  ·exact nL hS hQ
  ·exact jL (TZ hd hQ hS)
def X6(a1:Int)(a2:ag):St:=⟨(up (up (up (up (up u0 1000003 .un) 1000002 .un) 1000001 .un) 1 (dI a1)) 0 (pt 0)),(kG a2)⟩
def D_(a1:Int)(a2:ag):Option (ag):=(uN a1 a2 a1)
theorem Gh(hd:9≤d){a1:Int}{a2 r:ag}(hQ:FQ (tu r) Q)(hS:D_ a1 a2=some r): ∀st,au [0,1,1000001,1000002,1000003] [(0,.id 0),(1,.id 1),(2,.id 2),(3,.id 3)] [] st=X6 a1 a2→ZX d Q aa8 [.seq Po] st:=by
 intro st he
 exact ay he (jR (yE hd hQ hS))
def f187(a1:Int)(a2:ag):Option (ag):=(bif (decide (0≤a1)) then (bif (decide (a1≤127)) then ((jG a2.af.cN 2).bind fun m60=>(bif (decide (m60=0)) then ((f211 a2.af.bF.1 (u8 a1)).bind fun z61=>(uN a1 a2 z61.1)) else ((f211 a2.af.bF.2 (u8 a1)).bind fun z62=>(uN a1 a2 z62.1)))) else (D_ a1 a2)) else (D_ a1 a2))
theorem anz{d:Nat}(hd:9≤d){a1:Int}{a2 r:ag}(hS:f187 a1 a2=some r):bW av aX d 187 [(pt 0),(dI a1)] [(eo a2),(aH a2.af),(aI a2.af),(aM a2.af)]=some ((.bE []),[(eo r),(aH r.af),(aI r.af),(aM r.af)]):=by
 refine cL tu hd (fun Q hQ=>?_) aew
 refine aC (zS (zL 1 (sB 7 hS (fun hS=>?_) (fun hS=>?_))))
 ·refine zL 2 (sB 10 hS (fun hS=>?_) (fun hS=>?_))
  ·refine zL 1 (zK (zT (cC (cy 9 (aq hS (fun m60 awR hS=>axV (decide (m60=0)) (fun Kk=>?_) (fun Kk=>?_)))))))
   ·replace hS:=CV Kk hS
    exact dr (v:=(.r (.ptr 0 0 16))) (aD:= []) (some 22) none (.sN 2 1 (tm 21) (tm 18)) (aij (kk:= .i64) (b:=0) (g:=0) (o:=16) (j:=a2.af.cN) (m:=m60) (by kernel_rfl) (by kernel_rfl) awR Kk) (cy 2 (dr (v:=(.d (.int .u8 ((u8 a1).toNat:Int)))) (aD:= []) (some 25) none (.ku .u8 (tm 24)) (gC (kk:= .i64) (a:=a1) (by kernel_rfl) (iq _)) (aq hS (fun z61 anq hS=>dr (some 26) none (.call 211 [(tm 23),(tm 25)]) (bX (TM (aU hd rfl) anq)) (cy 4 (fL (jK (yE hd hQ hS))))))))
   ·replace hS:=CW Kk hS
    exact dr (v:=(.r (.ptr 0 0 17))) (aD:= []) (some 22) none (.sN 2 1 (tm 21) (tm 18)) (aik (kk:= .i64) (b:=0) (g:=0) (o:=16) (j:=a2.af.cN) (m:=m60) (by kernel_rfl) (by kernel_rfl) awR Kk) (cy 2 (dr (v:=(.d (.int .u8 ((u8 a1).toNat:Int)))) (aD:= []) (some 25) none (.ku .u8 (tm 24)) (gC (kk:= .i64) (a:=a1) (by kernel_rfl) (iq _)) (aq hS (fun z62 acA hS=>dr (some 26) none (.call 211 [(tm 23),(tm 25)]) (bX (TM (aU hd rfl) acA)) (cy 4 (fL (jK (yE hd hQ hS))))))))
  ·exact zL 1 (zK (zF (Gh hd hQ hS _ (by kernel_rfl))))
 ·exact jL (Gh hd hQ hS)
/- farwriter/tabs.has -/
def auG(r:Bool)(e:PX)(st:St):Prop:=aV abd 0 ((dB r),[]) e st
def f242(a1:bq)(a2:Int):Option (Bool):=((jG (IntKind.i64.wrap (Int.tdiv a2 64)) 4).bind fun m3=>((bO (decide (0≤(Int.tmod a2 64)))).bind fun z4=>(bif (decide ((cO .and .u64 (Int.fdiv (a1.Bits m3) (2^(min ((Int.tmod a2 64):Int).toNat 64))) 1)=1)) then (some true) else (some false))))
theorem T3{d:Nat}(hd:1≤d){a1:bq}{a2:Int}{r:Bool}(hS:f242 a1 a2=some r):bW av aX d 242 [(.agg (((cE .u64).row 4 a1.Bits)++ [])),(dI a2)] []=some ((dB r),[]):=by
 refine cL auG hd (fun Q hQ=>?_) ae5
 refine zS (zL 2 (zK (zS (zL 3 (aq hS (fun m3 hm3 hS=>zO (v:=(.r (.ptr 24 1 (0+m3*1)))) (aD:= []) (some 8) (.sN 4 1 (tm 7) (tm 6)) (oD (kk:= .i64) (b:=24) (g:=1) (o:=0) (j:=(IntKind.i64.wrap (Int.tdiv a2 64))) (by kernel_rfl) (by kernel_rfl) hm3) (zO (v:=(.d (.int .u64 (a1.Bits m3)))) (aD:= []) (some 9) (lf 1 8) (tZ (cE .u64) (b:=24) (g:=1) (o:=0+m3*1) (f:=a1.Bits) (nn:=4) (m:=m3) (fo:=0) (pre:= []) (post:= []) (by kernel_rfl) (by kernel_rfl) (by kernel_rfl) (lO hm3) (by kernel_rfl) (by kernel_rfl) (by kernel_rfl)) (zL 2 (aq hS (fun z4 jf hS=>zO (v:=(.d (.int .u64 (Int.fdiv (a1.Bits m3) (2^(min ((Int.tmod a2 64):Int).toNat 64)))))) (aD:= []) (some 12) (.sh .shr (tm 9) (tm 11)) (O5 (kk:= .u64) (k2:= .i64) (a:=(a1.Bits m3)) (c:=(Int.tmod a2 64)) (by kernel_rfl) (by kernel_rfl) (aBL jf)) (zL 1 (sB 14 hS (fun hS=>?_) (fun hS=>?_)))))))))))))
 ·exact nL hS hQ
 ·exact nL hS hQ
/- farwriter/tabs.Next -/
def N5(oq mM:Int):St:=⟨(up (up u0 9 (dI mM)) 8 (dI oq)),h0⟩
theorem ags{oq mM:Int}:cP (N5 oq mM) 0 Ji.res=some ((.bE [(dI oq),(dI mM)]),[]):=by
 kernel_rfl
def acC(r:Int×Int)(e:PX)(st:St):Prop:=aV Ji 0 ((.bE [(dI r.1),(dI r.2)]),[]) e st
def X7(a1:bq)(a2 a3 a4:Int)(x:Int×Int):St:=⟨(up (up (up (up (up u0 10 (dI x.2)) 4 (pt 40)) 3 (dI a4)) 2 (dI x.1)) 1 (dI a2)),(up h0 40 ⟨0,some (.box (((cE .u64).row 4 a1.Bits)++ []))⟩)⟩
def sD(a1:bq)(a2 a3 a4:Int)(x:Int×Int)(st:St):Prop:=au [1,2,3,4,10] [(40,.id 40)] [] st=X7 a1 a2 a3 a4 x
def Bl(a1:bq)(a2 a3 a4:Int):St:=⟨(up u0 1 (dI a2)),h0⟩
def vV(a1:bq)(a2 a3 a4:Int)(z:Unit⊕(Int×Int))(e:PX)(st:St):Prop:=(match z with | .inl z=>e= .exit 0∧st=Bl a1 a2 a3 a4 | .inr z=>e= .ret∧dY Ji.fin st=N5 z.1 z.2)
def Mg(a1:bq)(a2 a3:Int)(a4 dZ gj:Int):St:=⟨(up (up (up (up (up u0 10 (dI gj)) 4 (pt 40)) 3 (dI a4)) 2 (dI dZ)) 1 (dI a2)),(up h0 40 ⟨0,some (.box (((cE .u64).row 4 a1.Bits)++ []))⟩)⟩
def yF(a1:bq)(a2 a3:Int)(a4 dZ gj:Int):Option ((Int×Int)⊕(Unit⊕(Int×Int))):=((f242 a1 gj).bind fun z4=>(bif z4 then (bif (decide ((IntKind.i64.wrap (dZ-1))=0)) then (some (.inr (.inr (gj,0)))) else (some (.inl ((IntKind.i64.wrap (dZ-1)),gj)))) else (some (.inl (dZ,gj)))))
theorem Kl(hd:2≤d){a1:bq}{a2 a3 a4:Int}{r:(Int×Int)⊕(Unit⊕(Int×Int))}(hQ:FQ (bG (sD a1 a2 a3 a4) (vV a1 a2 a3 a4) r) Q){dZ gj:Int}(hS:yF a1 a2 a3 a4 dZ gj=some r): ∀st,au [1,2,3,4,10] [(40,.id 40)] [] st=Mg a1 a2 a3 a4 dZ gj→ZX d Q abe [.blk 1] st:=by
 intro st he
 refine ay he (zS (zL 2 (aq hS (fun z4 jf hS=>zC 46 (T3 (aU hd rfl) jf) (zK (sR 46 hS (fun hS=>?_) (fun hS=>?_)))))))
 ·refine zT (zS (zL 3 (zK (zS (zL 1 (sB 50 hS (fun hS=>?_) (fun hS=>?_)))))))
  ·exact zK (zT (zS (zL 3 (zK (cM (cr (bk (mX hS hQ))))))))
  ·exact lL hS hQ
 ·exact lR hS hQ
def Mh(a1:bq)(a2 a3:Int)(a4 rB iQ:Int):St:=⟨(up (up (up (up (up u0 10 (dI iQ)) 4 (pt 40)) 3 (dI a4)) 2 (dI rB)) 1 (dI a2)),(up h0 40 ⟨0,some (.box (((cE .u64).row 4 a1.Bits)++ []))⟩)⟩
def yG(a1:bq)(a2 a3:Int)(a4 rB iQ:Int):Option ((Int×Int)⊕(Unit⊕(Int×Int))):=(bif (decide (a4≤(IntKind.i64.wrap (iQ+1)))) then (some (.inr (.inr ((IntKind.i64.wrap (a4-1)),0)))) else (yF a1 a2 a3 a4 rB (IntKind.i64.wrap (iQ+1))))
theorem Km(hd:2≤d){a1:bq}{a2 a3 a4:Int}{r:(Int×Int)⊕(Unit⊕(Int×Int))}(hQ:FQ (bG (sD a1 a2 a3 a4) (vV a1 a2 a3 a4) r) Q){rB iQ:Int}(hS:yG a1 a2 a3 a4 rB iQ=some r): ∀st,au [1,2,3,4,10] [(40,.id 40)] [] st=Mh a1 a2 a3 a4 rB iQ→ZX d Q abf [] st:=by
 intro st he
 refine ay he (bz (aC (zS (zL 3 (zK (zS (zL 2 (sB 41 hS (fun hS=>?_) (fun hS=>?_)))))))))
 ·exact zK (zT (zS (zL 4 (zK (cM (bP (cr (bk (mX hS hQ)))))))))
 ·exact jL (Kl hd hQ hS)
def Ea(a1:bq)(a2 a3 a4:Int)(x:Int×Int):Option ((Int×Int)⊕(Unit⊕(Int×Int))):=(bif (decide (0<x.1)) then (yG a1 a2 a3 a4 x.1 x.2) else (some (.inr (.inl ()))))
theorem T4(hd:2≤d){a1:bq}{a2 a3 a4:Int}{r:(Int×Int)⊕(Unit⊕(Int×Int))}(hQ:FQ (bG (sD a1 a2 a3 a4) (vV a1 a2 a3 a4) r) Q){x:Int×Int}(hS:Ea a1 a2 a3 a4 x=some r)(he:sD a1 a2 a3 a4 x st):ZX d Q abg [] st:=by
 refine ay he (aC (zS (zL 1 (sB 36 hS (fun hS=>?_) (fun hS=>?_)))))
 ·exact jL (Km hd hQ hS)
 ·exact zK (zF (ay (J:=Bl a1 a2 a3 a4) (by kernel_rfl) (dh (cY (bk (jA hS hQ))))))
def X8(a1:bq)(a2 a3 a4:Int):St:=⟨(up (up (up (up u0 4 (pt 40)) 3 (dI a4)) 2 (dI a3)) 1 (dI a2)),(up h0 40 ⟨0,some (.box (((cE .u64).row 4 a1.Bits)++ []))⟩)⟩
def Kn(a1:bq)(a2 a3 a4:Int):Option (Int×Int):=((b9 (Ea a1 a2 a3 a4) (a3,a2)).bind fun z5=>(Sum.elim (fun z6=>(some (a2,0))) (fun z7=>(some (z7.1,z7.2))) z5))
theorem T5(hd:2≤d){a1:bq}{a2 a3 a4:Int}{r:Int×Int}(hQ:FQ (acC r) Q)(hS:Kn a1 a2 a3 a4=some r): ∀st,au [1,2,3,4] [(40,.id 40)] [] st=X8 a1 a2 a3 a4→ZX d Q abh [] st:=by
 intro st he
 refine ay he (aC (zS (zL 2 (zK (bz (aq hS (fun z5 jZ hS=>dN (sD a1 a2 a3 a4) (vV a1 a2 a3 a4) (fun x st r Q h0 hS hQ=>T4 hd hQ hS h0) (x:=(a3,a2)) (z:=z5) (by show au _ _ _ _=_;kernel_rfl) jZ ?_)))))))
 rcases z5 with z6 | z7
 ·replace hS:=(show _=_ from hS)
  simp only [ua] at hS
  intro e bl _ hX
  obtain ⟨rfl,rfl⟩:_∧_:=hX
  exact nK hS hQ
 ·simp only [ud] at hS
  intro e bl _ hX
  obtain ⟨rfl,hX⟩:_∧_:=hX
  exact cr (bP (bk (eA hS hQ (jv (by kernel_rfl) ((congrArg (fun s=>cP s 0 Ji.res) hX).trans ags)))))
def f218(a1:bq)(a2 a3 a4:Int):Option (Int×Int):=(bif (decide (a4<1)) then (some (0,1)) else (bif (decide (160<a4)) then (some (0,1)) else (bif (decide (a2<0)) then (some (0,1)) else (bif (decide (a4≤a2)) then (some (0,1)) else (bif (decide (a3<0)) then (some (0,1)) else (bif (decide (16383<a3)) then (some (0,1)) else (Kn a1 a2 a3 a4)))))))
theorem T6{d:Nat}(hd:2≤d){a1:bq}{a2 a3 a4:Int}{r:Int×Int}(hS:f218 a1 a2 a3 a4=some r):bW av aX d 218 [(.agg (((cE .u64).row 4 a1.Bits)++ [])),(dI a2),(dI a3),(dI a4)] []=some ((.bE [(dI r.1),(dI r.2)]),[]):=by
 refine cL acC hd (fun Q hQ=>?_) aeM
 refine zS (zL 3 (zK (aC (zS (zL 1 (sB 12 hS (fun hS=>?_) (fun hS=>?_)))))))
 ·exact nL hS hQ
 ·refine zL 2 (sB 15 hS (fun hS=>?_) (fun hS=>?_))
  ·exact nL hS hQ
  ·refine zL 3 (sB 19 hS (fun hS=>?_) (fun hS=>?_))
   ·exact nL hS hQ
   ·refine zL 4 (sB 24 hS (fun hS=>?_) (fun hS=>?_))
    ·exact nL hS hQ
    ·refine zL 3 (sB 28 hS (fun hS=>?_) (fun hS=>?_))
     ·exact nL hS hQ
     ·refine zL 3 (sB 32 hS (fun hS=>?_) (fun hS=>?_))
      ·exact nL hS hQ
      ·exact jL (T5 hd hQ hS)
/- (*farwriter/screen.terminal).control -/
def acD(r:ag)(e:PX)(st:St):Prop:=aV abk 4 ((.bE []),[(eo r),(aH r.af),(aI r.af),(aM r.af)]) e st
def X9(a1:Int)(a2:ag)(gq:Bool):St:=⟨(up (up (up (up (up (up u0 1000003 .un) 1000002 .un) 1000001 .un) 42 (dB gq)) 6 (dI a1)) 0 (pt 0)),(kG a2)⟩
def nu(a1:Int)(a2:ag)(gq:Bool):Option (ag):=(bif gq then ((f213 a2).bind fun ox=>((f214 ox [] 128).bind fun JG=>(bif JG then ((f212 0 ox).bind fun z31=>((bO (decide (z31.af.bn.length=ox.af.bn.length))).bind fun JH=>((bO (decide (z31.af.aT.Cells.length=ox.af.aT.Cells.length))).bind fun z33=>((bO (decide (z31.af.aG.Cells.length=ox.af.aG.Cells.length))).bind fun Qe=>(some z31))))) else (some ox)))) else (bif (decide (a1=13)) then ((f212 0 a2).bind fun JF=>((bO (decide (JF.af.bn.length=a2.af.bn.length))).bind fun z36=>((bO (decide (JF.af.aT.Cells.length=a2.af.aT.Cells.length))).bind fun z37=>((bO (decide (JF.af.aG.Cells.length=a2.af.aG.Cells.length))).bind fun L8=>(some JF))))) else (bif (decide (a1=14)) then (some (ag.mk ({a2.af with cN:=1}) a2.sent)) else (bif (decide (a1=15)) then (some (ag.mk ({a2.af with cN:=0}) a2.sent)) else (some a2)))))
theorem tv(hd:9≤d){a1:Int}{a2 r:ag}(hQ:FQ (acD r) Q){gq:Bool}(hS:nu a1 a2 gq=some r): ∀st,au [0,6,42,1000001,1000002,1000003] [(0,.id 0),(1,.id 1),(2,.id 2),(3,.id 3)] [] st=X9 a1 a2 gq→ZX d Q abj [.blk 0] st:=by
 intro st he
 refine ay he (sR 42 hS (fun hS=>?_) (fun hS=>?_))
 ·refine zT (zS (zL 1 (aq hS (fun ox JE hS=>fS 47 [0,1,2,3] (yo (aU hd rfl) JE) (zK (zS (zL 1 (aq hS (fun JG Tp hS=>zC 49 (si (aU hd rfl) Tp) (zK (sR 49 hS (fun hS=>?_) (fun hS=>?_))))))))))))
  ·exact zT (a_ (zL 1 (l6 51 (fun _ h=>gQ (aU hd rfl) h) hS (fun z31 acp hS=>nL hS hQ))))
  ·exact nR hS hQ
 ·refine zF (zS (sB 53 hS (fun hS=>?_) (fun hS=>?_)))
  ·exact zL 1 (zK (zT (a_ (zL 1 (l6 55 (fun _ h=>gQ (aU hd rfl) h) hS (fun JF awE hS=>nL hS hQ))))))
  ·refine zL 1 (zK (zF (zS (sB 57 hS (fun hS=>?_) (fun hS=>?_)))))
   ·exact nL hS hQ
   ·refine zL 1 (zK (zF (zS (sB 63 hS (fun hS=>?_) (fun hS=>?_)))))
    ·exact nL hS hQ
    ·exact nL hS hQ
def f188(a1:Int)(a2:ag):Option (ag):=(bif (decide (a1=8)) then ((f212 (IntKind.i64.wrap (a2.af.cQ-1)) a2).bind fun z20=>((bO (decide (z20.af.bn.length=a2.af.bn.length))).bind fun z21=>((bO (decide (z20.af.aT.Cells.length=a2.af.aT.Cells.length))).bind fun z22=>((bO (decide (z20.af.aG.Cells.length=a2.af.aG.Cells.length))).bind fun z23=>(some z20))))) else (bif (decide (a1=9)) then ((f218 a2.af.gN a2.af.cQ 1 a2.af.aG.bR).bind fun z24=>((f212 z24.1 a2).bind fun z25=>((bO (decide (z25.af.bn.length=a2.af.bn.length))).bind fun z26=>((bO (decide (z25.af.aT.Cells.length=a2.af.aT.Cells.length))).bind fun tL=>((bO (decide (z25.af.aG.Cells.length=a2.af.aG.Cells.length))).bind fun z28=>(some z25)))))) else (bif (decide (a1=10)) then (nu a1 a2 true) else (bif (decide (a1=11)) then (nu a1 a2 true) else (bif (decide (a1=12)) then (nu a1 a2 true) else (nu a1 a2 false))))))
theorem anA{d:Nat}(hd:9≤d){a1:Int}{a2 r:ag}(hS:f188 a1 a2=some r):bW av aX d 188 [(pt 0),(dI a1)] [(eo a2),(aH a2.af),(aI a2.af),(aM a2.af)]=some ((.bE []),[(eo r),(aH r.af),(aI r.af),(aM r.af)]):=by
 refine cL acD hd (fun Q hQ=>?_) aex
 refine zS (zL 1 (zK (bz (zS (sB 8 hS (fun hS=>?_) (fun hS=>?_))))))
 ·exact zL 1 (zK (zT (a_ (zL 7 (l6 16 (fun _ h=>gQ (aU hd rfl) h) hS (fun z20 nN hS=>nL hS hQ))))))
 ·refine zL 1 (zK (zF (zS (sB 18 hS (fun hS=>?_) (fun hS=>?_)))))
  ·exact zL 1 (zK (zT (aC (cC (cy 16 (aq hS (fun z24 pX hS=>dr (some 36) none (.call 218 [(tm 24),(tm 29),(ki 1),(tm 35)]) (bX (T6 (aU hd rfl) pX)) (cy 5 (fL (cj (a_ (zL 2 (l6 41 (fun _ h=>gQ (aU hd rfl) h) hS (fun z25 rQ hS=>nL hS hQ))))))))))))))
  ·refine zL 1 (zK (zF (aC (zS (sB 43 hS (fun hS=>?_) (fun hS=>?_))))))
   ·exact jL (tv hd hQ hS)
   ·refine zL 1 (zK (zF (zS (sB 44 hS (fun hS=>?_) (fun hS=>?_)))))
    ·exact jL (tv hd hQ hS)
    ·refine zL 1 (zK (zF (a_ (sB 45 hS (fun hS=>?_) (fun hS=>?_)))))
     ·exact zL 1 (zK (tv hd hQ hS _ (by kernel_rfl)))
     ·exact jL (tv hd hQ hS)
/- (*farwriter/screen.terminal).reverse -/
def auH(r:ag)(e:PX)(st:St):Prop:=aV abl 4 ((.bE []),[(eo r),(aH r.af),(aI r.af),(aM r.af)]) e st
def f219(a1:ag):Option (ag):=(bif (decide (a1.af.Row=a1.af.jx)) then ((f216 (ag.mk ({a1.af with eV:=false}) a1.sent) []).bind fun z4=>((f239 a1.af.aG.bR a1.af.aG.bV a1.af.jx a1.af.cZ (-1) z4 a1.af.aG.Cells).bind fun z5=>((bO (decide (z5.length=a1.af.aG.Cells.length))).bind fun z6=>(some (ag.mk ({a1.af with aG:=(bQ.mk a1.af.aG.bR a1.af.aG.bV z5),eV:=false}) a1.sent))))) else (bif (decide (0<a1.af.Row)) then (some (ag.mk ({a1.af with Row:=(IntKind.i64.wrap (a1.af.Row-1)),eV:=false}) a1.sent)) else (some (ag.mk ({a1.af with eV:=false}) a1.sent))))
theorem anB{d:Nat}(hd:8≤d){a1 r:ag}(hS:f219 a1=some r):bW av aX d 219 [(pt 0)] [(eo a1),(aH a1.af),(aI a1.af),(aM a1.af)]=some ((.bE []),[(eo r),(aH r.af),(aI r.af),(aM r.af)]):=by
 refine cL auH hd (fun Q hQ=>?_) aeN
 refine zS (zL 5 (zK (bz (aC (cC (cy 10 (Ll 17 none (.sQ .eql (tm 11) (tm 16)) hS (fun hS=>?_) (fun hS=>?_))))))))
 ·refine cy 1 (fL (cj (zT (cC (cy 16 (aq hS (fun z4 jf hS=>dr (some 34) none (c1 216 33) (bX (x_ (aU hd rfl) jf)) (aq hS (fun z5 jZ hS=>aq hS (fun z6 nH hS=>dr (some 35) none (.fO 239 [(tm 22),(tm 27),(tm 32),(ki (-1)),(tm 34)]) (vk [1] [(aH a1.af)] (Kc (aU hd rfl) jZ) (sW ak (e1:=87) (k1:=4) (xs:=a1.af.aG.Cells) (ys:=z5) (by kernel_rfl) nH qb)) ?_))))))))))
  have lz6:a1.af.aG.Cells.length=z5.length:=(of_decide_eq_true (gW nH)).symm
  try delta ue eo kG mL uf jS lH kV j_ kW
  try delta bS
  try rw [lz6]
  exact fL (nK hS hQ)
 ·refine cy 1 (fL (cj (zF (zS (zL 5 (sB 42 hS (fun hS=>?_) (fun hS=>?_)))))))
  ·exact nL hS hQ
  ·exact nL hS hQ
/- farwriter/tabs.Set -/
def acE(r:bq×Int)(e:PX)(st:St):Prop:=aV abn 0 ((.bE [(.agg (((cE .u64).row 4 r.1.Bits)++ [])),(dI r.2)]),[]) e st
def X_(a1:bq)(a2:Int)(a3:Bool):St:=⟨(up (up (up (up u0 6 (pt 56)) 3 (pt 32)) 2 (dB a3)) 1 (dI a2)),(up (up h0 56 ⟨0,some (.box (((cE .u64).row 4 (fun _=>0))++ []))⟩) 32 ⟨0,some (.box (((cE .u64).row 4 a1.Bits)++ []))⟩)⟩
def Eb(a1:bq)(a2:Int)(a3:Bool):Option (bq×Int):=((jG (IntKind.i64.wrap (Int.tdiv a2 64)) 4).bind fun m7=>((bO (decide (0≤(Int.tmod a2 64)))).bind fun z8=>((jG (IntKind.i64.wrap (Int.tdiv a2 64)) 4).bind fun m9=>(bif a3 then ((jG (IntKind.i64.wrap (Int.tdiv a2 64)) 4).bind fun m10=>((bO (decide (0≤(Int.tmod a2 64)))).bind fun cS=>((jG (IntKind.i64.wrap (Int.tdiv a2 64)) 4).bind fun m12=>(some ((bq.mk (upd (upd a1.Bits m9 (cO .andNot .u64 (a1.Bits m7) (IntKind.u64.wrap (1*2^(min ((Int.tmod a2 64):Int).toNat 64))))) m12 (cO .or .u64 ((upd a1.Bits m9 (cO .andNot .u64 (a1.Bits m7) (IntKind.u64.wrap (1*2^(min ((Int.tmod a2 64):Int).toNat 64))))) m10) (IntKind.u64.wrap (1*2^(min ((Int.tmod a2 64):Int).toNat 64)))))),0))))) else (some ((bq.mk (upd a1.Bits m9 (cO .andNot .u64 (a1.Bits m7) (IntKind.u64.wrap (1*2^(min ((Int.tmod a2 64):Int).toNat 64)))))),0))))))
theorem T7(hd:1≤d){a1:bq}{a2:Int}{a3:Bool}{r:bq×Int}(hQ:FQ (acE r) Q)(hS:Eb a1 a2 a3=some r): ∀st,au [1,2,3,6] [(32,.id 32),(56,.id 56)] [] st=X_ a1 a2 a3→ZX d Q abm [] st:=by
 intro st he
 refine ay he (aC (cC (cy 3 (aq hS (fun m7 hm7 hS=>dr (v:=(.r (.ptr 32 0 (0+m7*1)))) (aD:= []) (some 18) none (.sN 4 1 (tm 17) (tm 16)) (oD (kk:= .i64) (b:=32) (g:=0) (o:=0) (j:=(IntKind.i64.wrap (Int.tdiv a2 64))) (by kernel_rfl) (by kernel_rfl) hm7) (dr (v:=(.d (.int .u64 (a1.Bits m7)))) (aD:= []) (some 19) none (lf 1 18) (tZ (cE .u64) (b:=32) (g:=0) (o:=0+m7*1) (f:=a1.Bits) (nn:=4) (m:=m7) (fo:=0) (pre:= []) (post:= []) (by kernel_rfl) (by kernel_rfl) (by kernel_rfl) (lO hm7) (by kernel_rfl) (by kernel_rfl) (by kernel_rfl)) (cy 2 (aq hS (fun z8 je hS=>dr (v:=(.d (.int .u64 (IntKind.u64.wrap (1*2^(min ((Int.tmod a2 64):Int).toNat 64)))))) (aD:= []) (some 22) none (.sh .shl (.const (.int .u64 1)) (tm 21)) (O5 (kk:= .u64) (k2:= .i64) (a:=1) (c:=(Int.tmod a2 64)) (by kernel_rfl) (by kernel_rfl) (aio je)) (cy 2 (aq hS (fun m9 hm9 hS=>dr (v:=(.r (.ptr 32 0 (0+m9*1)))) (aD:= []) (some 25) none (.sN 4 1 (tm 24) (tm 16)) (oD (kk:= .i64) (b:=32) (g:=0) (o:=0) (j:=(IntKind.i64.wrap (Int.tdiv a2 64))) (by kernel_rfl) (by kernel_rfl) hm9) (dr (v:= .un) (aD:= [(32,⟨0,some (.box (((cE .u64).row 4 (upd a1.Bits m9 (cO .andNot .u64 (a1.Bits m7) (IntKind.u64.wrap (1*2^(min ((Int.tmod a2 64):Int).toNat 64))))))++ []))⟩)]) none none (.store 1 (tm 25) (tm 23)) (BI (cE .u64) (b:=32) (g:=0) (o:=0+m9*1) (f:=a1.Bits) (nn:=4) (m:=m9) (fo:=0) (pre:= []) (post:= []) (by kernel_rfl) (by kernel_rfl) (by kernel_rfl) (lO hm9) (new:=((.d (.int .u64 (cO .andNot .u64 (a1.Bits m7) (IntKind.u64.wrap (1*2^(min ((Int.tmod a2 64):Int).toNat 64)))))):: [])) (ds:= [.int .u64 (cO .andNot .u64 (a1.Bits m7) (IntKind.u64.wrap (1*2^(min ((Int.tmod a2 64):Int).toNat 64))))]) (z':=(cO .andNot .u64 (a1.Bits m7) (IntKind.u64.wrap (1*2^(min ((Int.tmod a2 64):Int).toNat 64))))) (by kernel_rfl) (by kernel_rfl) (by kernel_rfl) (by kernel_rfl) (by kernel_rfl) (by kernel_rfl)) (fL (cj (aC (zS (zL 1 (zK (sR 26 hS (fun hS=>?_) (fun hS=>?_)))))))))))))))))))))
 ·exact zT (cC (cy 3 (aq hS (fun m10 awS hS=>dr (v:=(.r (.ptr 32 0 (0+m10*1)))) (aD:= []) (some 30) none (.sN 4 1 (tm 29) (tm 28)) (oD (kk:= .i64) (b:=32) (g:=0) (o:=0) (j:=(IntKind.i64.wrap (Int.tdiv a2 64))) (by kernel_rfl) (by kernel_rfl) awS) (dr (v:=(.d (.int .u64 ((upd a1.Bits m9 (cO .andNot .u64 (a1.Bits m7) (IntKind.u64.wrap (1*2^(min ((Int.tmod a2 64):Int).toNat 64))))) m10)))) (aD:= []) (some 31) none (lf 1 30) (tZ (cE .u64) (b:=32) (g:=0) (o:=0+m10*1) (f:=(upd a1.Bits m9 (cO .andNot .u64 (a1.Bits m7) (IntKind.u64.wrap (1*2^(min ((Int.tmod a2 64):Int).toNat 64)))))) (nn:=4) (m:=m10) (fo:=0) (pre:= []) (post:= []) (by kernel_rfl) (by kernel_rfl) (by kernel_rfl) (lO awS) (by kernel_rfl) (by kernel_rfl) (by kernel_rfl)) (cy 2 (aq hS (fun cS kf hS=>dr (v:=(.d (.int .u64 (IntKind.u64.wrap (1*2^(min ((Int.tmod a2 64):Int).toNat 64)))))) (aD:= []) (some 34) none (.sh .shl (.const (.int .u64 1)) (tm 33)) (O5 (kk:= .u64) (k2:= .i64) (a:=1) (c:=(Int.tmod a2 64)) (by kernel_rfl) (by kernel_rfl) (aio kf)) (cy 2 (aq hS (fun m12 awT hS=>dr (v:=(.r (.ptr 32 0 (0+m12*1)))) (aD:= []) (some 37) none (.sN 4 1 (tm 36) (tm 28)) (oD (kk:= .i64) (b:=32) (g:=0) (o:=0) (j:=(IntKind.i64.wrap (Int.tdiv a2 64))) (by kernel_rfl) (by kernel_rfl) awT) (dr (v:= .un) (aD:= [(32,⟨0,some (.box (((cE .u64).row 4 (upd (upd a1.Bits m9 (cO .andNot .u64 (a1.Bits m7) (IntKind.u64.wrap (1*2^(min ((Int.tmod a2 64):Int).toNat 64))))) m12 (cO .or .u64 ((upd a1.Bits m9 (cO .andNot .u64 (a1.Bits m7) (IntKind.u64.wrap (1*2^(min ((Int.tmod a2 64):Int).toNat 64))))) m10) (IntKind.u64.wrap (1*2^(min ((Int.tmod a2 64):Int).toNat 64))))))++ []))⟩)]) none none (.store 1 (tm 37) (tm 35)) (BI (cE .u64) (b:=32) (g:=0) (o:=0+m12*1) (f:=(upd a1.Bits m9 (cO .andNot .u64 (a1.Bits m7) (IntKind.u64.wrap (1*2^(min ((Int.tmod a2 64):Int).toNat 64)))))) (nn:=4) (m:=m12) (fo:=0) (pre:= []) (post:= []) (by kernel_rfl) (by kernel_rfl) (by kernel_rfl) (lO awT) (new:=((.d (.int .u64 (cO .or .u64 ((upd a1.Bits m9 (cO .andNot .u64 (a1.Bits m7) (IntKind.u64.wrap (1*2^(min ((Int.tmod a2 64):Int).toNat 64))))) m10) (IntKind.u64.wrap (1*2^(min ((Int.tmod a2 64):Int).toNat 64)))))):: [])) (ds:= [.int .u64 (cO .or .u64 ((upd a1.Bits m9 (cO .andNot .u64 (a1.Bits m7) (IntKind.u64.wrap (1*2^(min ((Int.tmod a2 64):Int).toNat 64))))) m10) (IntKind.u64.wrap (1*2^(min ((Int.tmod a2 64):Int).toNat 64))))]) (z':=(cO .or .u64 ((upd a1.Bits m9 (cO .andNot .u64 (a1.Bits m7) (IntKind.u64.wrap (1*2^(min ((Int.tmod a2 64):Int).toNat 64))))) m10) (IntKind.u64.wrap (1*2^(min ((Int.tmod a2 64):Int).toNat 64))))) (by kernel_rfl) (by kernel_rfl) (by kernel_rfl) (by kernel_rfl) (by kernel_rfl) (by kernel_rfl)) (fL (nK hS hQ))))))))))))))
 ·exact nR hS hQ
def f220(a1:bq)(a2:Int)(a3:Bool):Option (bq×Int):=(bif (decide (a2<0)) then (some (a1,1)) else (bif (decide (255<a2)) then (some (a1,1)) else (Eb a1 a2 a3)))
theorem anE{d:Nat}(hd:1≤d){a1:bq}{a2:Int}{a3:Bool}{r:bq×Int}(hS:f220 a1 a2 a3=some r):bW av aX d 220 [(.agg (((cE .u64).row 4 a1.Bits)++ [])),(dI a2),(dB a3)] []=some ((.bE [(.agg (((cE .u64).row 4 r.1.Bits)++ [])),(dI r.2)]),[]):=by
 refine cL acE hd (fun Q hQ=>?_) aeO
 refine zS (zL 3 (zK (aC (zS (zL 1 (sB 9 hS (fun hS=>?_) (fun hS=>?_)))))))
 ·exact nL hS hQ
 ·refine zL 2 (sB 12 hS (fun hS=>?_) (fun hS=>?_))
  ·exact nL hS hQ
  ·exact jL (T7 hd hQ hS)
/- (*farwriter/screen.terminal).save -/
def auI(r:ag)(e:PX)(st:St):Prop:=aV abo 4 ((.bE []),[(eo r),(aH r.af),(aI r.af),(aM r.af),.box []]) e st
def f221(a1:ag):Option (ag):=((f214 a1 [] 2).bind fun z2=>(some (ag.mk ({a1.af with aS:=(sX.mk a1.af.Row a1.af.cQ a1.af.cz z2 a1.af.bF a1.af.cN)}) a1.sent)))
theorem T8{d:Nat}(hd:2≤d){a1 r:ag}(hS:f221 a1=some r):bW av aX d 221 [(pt 0)] [(eo a1),(aH a1.af),(aI a1.af),(aM a1.af)]=some ((.bE []),[(eo r),(aH r.af),(aI r.af),(aM r.af),.box []]):=by
 refine cL auI hd (fun Q hQ=>?_) aeP
 exact cC (cy 17 (aq hS (fun z2 hz2 hS=>dr (some 19) none (.call 214 [(tm 18),(ki 2)]) (bX (si (aU hd rfl) hz2)) (cy 15 (fL (nK hS hQ))))))
/- (*farwriter/screen.terminal).set -/
def auJ(r:ag)(e:PX)(st:St):Prop:=aV abp 4 ((.bE []),[(eo r),(aH r.af),(aI r.af),(aM r.af),.box []]) e st
def f223(a1:Int)(a2:Bool)(a3:ag):Option (ag):=(bif a2 then (some (ag.mk ({a3.af with dO:=(cO .or .i64 (cO .andNot .i64 a3.af.dO a1) a1)}) a3.sent)) else (some (ag.mk ({a3.af with dO:=(cO .andNot .i64 a3.af.dO a1)}) a3.sent)))
theorem Ko{d:Nat}(hd:1≤d){a1:Int}{a2:Bool}{a3 r:ag}(hS:f223 a1 a2 a3=some r):bW av aX d 223 [(pt 0),(dI a1),(dB a2)] [(eo a3),(aH a3.af),(aI a3.af),(aM a3.af)]=some ((.bE []),[(eo r),(aH r.af),(aI r.af),(aM r.af),.box []]):=by
 refine cL auJ hd (fun Q hQ=>?_) aeR
 refine zS (zL 11 (zK (zS (zL 1 (zK (sR 16 hS (fun hS=>?_) (fun hS=>?_)))))))
 ·exact nR hS hQ
 ·exact nR hS hQ
/- (*farwriter/screen.terminal).restore -/
def auK(r:ag)(e:PX)(st:St):Prop:=aV abq 4 ((.bE []),[(eo r),(aH r.af),(aI r.af),(aM r.af),.box []]) e st
def f222(a1:ag):Option (ag):=((f223 2 a1.af.aS.Origin (aBS a1)).bind fun z9=>((bO (decide (z9.af.bn.length=a1.af.bn.length))).bind fun dG=>((bO (decide (z9.af.aT.Cells.length=a1.af.aT.Cells.length))).bind fun cS=>((bO (decide (z9.af.aG.Cells.length=a1.af.aG.Cells.length))).bind fun z12=>((f212 a1.af.aS.cQ z9).bind fun dP=>((bO (decide (dP.af.bn.length=z9.af.bn.length))).bind fun dU=>((bO (decide (dP.af.aT.Cells.length=z9.af.aT.Cells.length))).bind fun fk=>((bO (decide (dP.af.aG.Cells.length=z9.af.aG.Cells.length))).bind fun dy=>(some dP)))))))))
theorem T9{d:Nat}(hd:3≤d){a1 r:ag}(hS:f222 a1=some r):bW av aX d 222 [(pt 0)] [(eo a1),(aH a1.af),(aI a1.af),(aM a1.af)]=some ((.bE []),[(eo r),(aH r.af),(aI r.af),(aM r.af),.box []]):=by
 refine cL auK hd (fun Q hQ=>?_) aeQ
 exact zS (zL 7 (zK (aC (cC (cy 15 (fL (cj (aC (cC (cy 21 (fL (cj (zS (zL 3 (l6 43 (fun _ h=>Ko (aU hd rfl) h) hS (fun z9 jI hS=>zK (a_ (zL 3 (l6 47 (fun _ h=>gQ (aU hd rfl) h) hS (fun dP jn hS=>nL hS hQ))))))))))))))))))))
/- farwriter/grid.New -/
def agt(p5 p6:Int)(p7:List ah)(p8:Int):St:=⟨(up (up u0 7 (dI p8)) 6 (pt 56)),(up (up h0 216 ⟨0,some (.own 87 4 (ak.cells p7))⟩) 56 ⟨0,some (.box ((dI p5)::((dI p6)::((.r (.aJ 216 0 0 p7.length)):: []))))⟩)⟩
theorem Ff{p5 p6:Int}{p7:List ah}{p8:Int}:cP (agt p5 p6 p7 p8) 0 SK.res=some ((.bE [(.agg ((dI p5)::((dI p6)::((.r (.own 0 87 4 p7.length (ak.cells p7))):: [])))),(dI p8)]),[]):=by
 exact iN (ids:= []) (ids':= [216]) (l:= [(.agg ((dI p5)::((dI p6)::((.r (.aJ 216 0 0 p7.length)):: [])))),(dI p8)]) (by kernel_rfl) (by kernel_rfl) (BL (aN (BK (aN rfl (aN rfl (aN (gX ak (e:=87) (k:=4) (xs:=p7) (by kernel_rfl) rfl rfl rfl rfl) mW)))) (aN rfl mW)))
def acF(r:Int×Int×(List ah)×Int)(e:PX)(st:St):Prop:=aV SK 0 ((.bE [(.agg ((dI r.1)::((dI r.2.1)::((.r (.own 0 87 4 r.2.2.1.length (ak.cells r.2.2.1))):: [])))),(dI r.2.2.2)]),[]) e st
def Ya(a1 a2:Int)(a3:bw):St:=⟨(up (up (up (up u0 6 (pt 56)) 5 (pt 48)) 1 (dI a2)) 0 (dI a1)),(up (up h0 56 ⟨0,some (.box ((dI 0)::((dI 0)::((.d (.sl ([]:List ah).length (ak.cells ([])))):: []))))⟩) 48 (xz a3))⟩
def Kp(a1 a2:Int)(a3:bw):Option (Int×Int×(List ah)×Int):=((f59 a3).bind fun z5=>(bif (!decide (z5=0)) then (some (0,0,[],z5)) else ((f138 a1 a2 a3).bind fun z6=>(some (z6.1,z6.2.1,z6.2.2,0)))))
theorem T_(hd:5≤d){a1 a2:Int}{a3:bw}{r:Int×Int×(List ah)×Int}(hQ:FQ (acF r) Q)(hS:Kp a1 a2 a3=some r): ∀st,au [0,1,5,6] [(48,.id 48),(56,.id 56)] [.cell 56 2 0 0 1] st=Ya a1 a2 a3→ZX d Q abr [] st:=by
 intro st he
 refine ay he (aC (zS (zL 1 (aq hS (fun z5 jZ hS=>zC 18 (Hq (aU hd rfl) jZ) (zL 1 (zK (zS (zL 1 (sB 20 hS (fun hS=>?_) (fun hS=>?_)))))))))))
 ·exact zK (zT (zS (zL 4 (zK (cM (bP (bk (eA hS hQ (fR Ff)))))))))
 ·exact zK (zF (fP (cj (zS (zL 3 (aq hS (fun z6 nH hS=>zC 26 (TQ (aU hd rfl) nH) (zL 2 (zK (cM (bk (eA hS hQ (fR Ff)))))))))))))
def f101(a1 a2:Int)(a3:bw):Option (Int×Int×(List ah)×Int):=((f88 a1 a2).bind fun z7=>(bif (!decide (z7=0)) then (some (0,0,[],z7)) else (Kp a1 a2 a3)))
theorem anF{d:Nat}(hd:5≤d){a1 a2:Int}{a3:bw}{r:Int×Int×(List ah)×Int}(hS:f101 a1 a2 a3=some r):bW av aX d 101 [(dI a1),(dI a2),(AB a3)] []=some ((.bE [(.agg ((dI r.1)::((dI r.2.1)::((.r (.own 0 87 4 r.2.2.1.length (ak.cells r.2.2.1))):: [])))),(dI r.2.2.2)]),[]):=by
 refine cL acF hd (fun Q hQ=>?_) ad7
 refine zS (zL 3 (zK (aC (zS (zL 2 (aq hS (fun z7 l8 hS=>zC 12 (ab9 (aU hd rfl) l8) (zL 1 (zK (zS (zL 1 (sB 14 hS (fun hS=>?_) (fun hS=>?_)))))))))))))
 ·exact zK (zT (zS (zL 4 (zK (cM (bP (bk (eA hS hQ (fR Ff)))))))))
 ·exact jL (T_ hd hQ hS)
/- farwriter/tabs.Usual -/
def auL(r:bq)(e:PX)(st:St):Prop:=aV abv 0 ((.agg (((cE .u64).row 4 r.Bits)++ [])),[]) e st
def Yb(x:bq×Int):St:=⟨(up (up (up u0 2 (dI x.2)) 1 (pt 16)) 0 (pt 8)),(up (up h0 16 ⟨0,some (.box (((cE .u64).row 4 x.1.Bits)++ []))⟩) 8 ⟨0,some (.box (((cE .u64).row 4 (fun _=>0))++ []))⟩)⟩
def vW(x:bq×Int)(st:St):Prop:=au [0,1,2] [(8,.id 8),(16,.id 16)] [] st=Yb x
def Bn(mZ:bq):St:=⟨(up (up u0 1 (pt 16)) 0 (pt 8)),(up (up h0 16 ⟨0,some (.box (((cE .u64).row 4 mZ.Bits)++ []))⟩) 8 ⟨0,some (.box (((cE .u64).row 4 (fun _=>0))++ []))⟩)⟩
def Ck(z:bq)(e:PX)(st:St):Prop:=e= .exit 0∧st=Bn z
def Mi(wR:bq)(gK:Int):St:=⟨(up (up (up u0 2 (dI gK)) 1 (pt 16)) 0 (pt 8)),(up (up h0 16 ⟨0,some (.box (((cE .u64).row 4 wR.Bits)++ []))⟩) 8 ⟨0,some (.box (((cE .u64).row 4 (fun _=>0))++ []))⟩)⟩
def yH(wR:bq)(gK:Int):Option ((bq×Int)⊕bq):=((jG (IntKind.i64.wrap (Int.tdiv gK 64)) 4).bind fun m7=>((bO (decide (0≤(Int.tmod gK 64)))).bind fun z8=>((jG (IntKind.i64.wrap (Int.tdiv gK 64)) 4).bind fun m9=>(some (.inl ((bq.mk (upd wR.Bits m9 (cO .or .u64 (wR.Bits m7) (IntKind.u64.wrap (1*2^(min ((Int.tmod gK 64):Int).toNat 64)))))),(IntKind.i64.wrap (gK+8))))))))
theorem Kq(hd:1≤d){r:(bq×Int)⊕bq}(hQ:FQ (bG (vW) (Ck) r) Q){wR:bq}{gK:Int}(hS:yH wR gK=some r): ∀st,au [0,1,2] [(8,.id 8),(16,.id 16)] [] st=Mi wR gK→ZX d Q abt [] st:=by
 intro st he
 exact ay he (aC (bz (cC (cy 3 (aq hS (fun m7 hm7 hS=>dr (v:=(.r (.ptr 16 0 (0+m7*1)))) (aD:= []) (some 10) none (.sN 4 1 (tm 9) (tm 8)) (oD (kk:= .i64) (b:=16) (g:=0) (o:=0) (j:=(IntKind.i64.wrap (Int.tdiv gK 64))) (by kernel_rfl) (by kernel_rfl) hm7) (dr (v:=(.d (.int .u64 (wR.Bits m7)))) (aD:= []) (some 11) none (lf 1 10) (tZ (cE .u64) (b:=16) (g:=0) (o:=0+m7*1) (f:=wR.Bits) (nn:=4) (m:=m7) (fo:=0) (pre:= []) (post:= []) (by kernel_rfl) (by kernel_rfl) (by kernel_rfl) (lO hm7) (by kernel_rfl) (by kernel_rfl) (by kernel_rfl)) (cy 2 (aq hS (fun z8 je hS=>dr (v:=(.d (.int .u64 (IntKind.u64.wrap (1*2^(min ((Int.tmod gK 64):Int).toNat 64)))))) (aD:= []) (some 14) none (.sh .shl (.const (.int .u64 1)) (tm 13)) (O5 (kk:= .u64) (k2:= .i64) (a:=1) (c:=(Int.tmod gK 64)) (by kernel_rfl) (by kernel_rfl) (aio je)) (cy 2 (aq hS (fun m9 hm9 hS=>dr (v:=(.r (.ptr 16 0 (0+m9*1)))) (aD:= []) (some 17) none (.sN 4 1 (tm 16) (tm 8)) (oD (kk:= .i64) (b:=16) (g:=0) (o:=0) (j:=(IntKind.i64.wrap (Int.tdiv gK 64))) (by kernel_rfl) (by kernel_rfl) hm9) (dr (v:= .un) (aD:= [(16,⟨0,some (.box (((cE .u64).row 4 (upd wR.Bits m9 (cO .or .u64 (wR.Bits m7) (IntKind.u64.wrap (1*2^(min ((Int.tmod gK 64):Int).toNat 64))))))++ []))⟩)]) none none (.store 1 (tm 17) (tm 15)) (BI (cE .u64) (b:=16) (g:=0) (o:=0+m9*1) (f:=wR.Bits) (nn:=4) (m:=m9) (fo:=0) (pre:= []) (post:= []) (by kernel_rfl) (by kernel_rfl) (by kernel_rfl) (lO hm9) (new:=((.d (.int .u64 (cO .or .u64 (wR.Bits m7) (IntKind.u64.wrap (1*2^(min ((Int.tmod gK 64):Int).toNat 64)))))):: [])) (ds:= [.int .u64 (cO .or .u64 (wR.Bits m7) (IntKind.u64.wrap (1*2^(min ((Int.tmod gK 64):Int).toNat 64))))]) (z':=(cO .or .u64 (wR.Bits m7) (IntKind.u64.wrap (1*2^(min ((Int.tmod gK 64):Int).toNat 64))))) (by kernel_rfl) (by kernel_rfl) (by kernel_rfl) (by kernel_rfl) (by kernel_rfl) (by kernel_rfl)) (fL (lK hS hQ))))))))))))))))
def Ec(x:bq×Int):Option ((bq×Int)⊕bq):=(bif (decide (x.2≤248)) then (yH x.1 x.2) else (some (.inr x.1)))
theorem Ua(hd:1≤d){r:(bq×Int)⊕bq}(hQ:FQ (bG (vW) (Ck) r) Q){x:bq×Int}(hS:Ec x=some r)(he:vW x st):ZX d Q abu [] st:=by
 refine ay he (aC (zS (zL 1 (sB 4 hS (fun hS=>?_) (fun hS=>?_)))))
 ·exact jL (Kq hd hQ hS)
 ·exact zK (zF (ay (J:=Bn x.1) (by kernel_rfl) (dh (cY (bk (jA hS hQ))))))
def f102:Option (bq):=((b9 (Ec) ((bq.mk (fun _=>0)),8)).bind fun dG=>(some dG))
theorem anG{d:Nat}(hd:1≤d){r:bq}(hS:f102=some r):bW av aX d 102 [] []=some ((.agg (((cE .u64).row 4 r.Bits)++ [])),[]):=by
 refine cL auL hd (fun Q hQ=>?_) ad8
 refine zS (zL 1 (zK (zS (zL 1 (zK (aC (zS (zL 1 (zK (bz (aq hS (fun dG jF hS=>dN (vW) (Ck) (fun x st r Q h0 hS hQ=>Ua hd hQ hS h0) (x:=((bq.mk (fun _=>0)),8)) (z:=dG) (by show au _ _ _ _=_;kernel_rfl) jF ?_))))))))))))
 intro e bl _ hX
 obtain ⟨rfl,rfl⟩:_∧_:=hX
 exact nK hS hQ
/- farwriter/screen.New -/
def anH(p6:aA)(p7:Int):St:=⟨(up (up u0 5 (dI p7)) 4 (pt 40)),(up (up (up h0 192 ⟨0,some (aI p6)⟩) 273 ⟨0,some (aH p6)⟩) 40 ⟨0,some (.box (kF p6 (.r (.aJ 273 0 0 p6.aG.Cells.length)) (.r (.aJ 192 0 0 p6.aT.Cells.length)) .nil))⟩)⟩
theorem Ub{p6:aA}{p7:Int}:cP (anH p6 p7) 0 c68.res=some ((.bE [(aiD p6),(dI p7)]),[]):=by
 exact iN (ids:= []) (ids':= [273,192]) (l:= [(.agg ((dI p6.aG.bR)::((dI p6.aG.bV)::((.r (.aJ 273 0 0 p6.aG.Cells.length))::((dI p6.Row)::((dI p6.cQ)::((dB p6.eV)::((dI p6.jx)::((dI p6.cZ)::((dI p6.cz.Flags)::((dI p6.cz.eK)::((dI p6.cz.dV)::((dI p6.dO)::(((cE .u64).row 4 p6.gN.Bits)++((dI p6.bF.1)::((dI p6.bF.2)::((dI p6.cN)::((dI p6.aS.Row)::((dI p6.aS.cQ)::((dI p6.aS.cz.Flags)::((dI p6.aS.cz.eK)::((dI p6.aS.cz.dV)::((dB p6.aS.Origin)::((dI p6.aS.bF.1)::((dI p6.aS.bF.2)::((dI p6.aS.cN)::((dI p6.aT.bR)::((dI p6.aT.bV)::((.r (.aJ 192 0 0 p6.aT.Cells.length))::((.d (.str p6.gZ))::(.nil:: []))))))))))))))))))))))))))))))),(dI p7)]) (by kernel_rfl) (by kernel_rfl) (BL (aN (BK (aN rfl (aN rfl (aN (gX ak (e:=87) (k:=4) (xs:=p6.aG.Cells) (by kernel_rfl) rfl rfl rfl rfl) (aN rfl (aN rfl (aN rfl (aN rfl (aN rfl (aN rfl (aN rfl (aN rfl (aN rfl (O9 (O_ (cE .u64)) (aN rfl (aN rfl (aN rfl (aN rfl (aN rfl (aN rfl (aN rfl (aN rfl (aN rfl (aN rfl (aN rfl (aN rfl (aN rfl (aN rfl (aN (gX ak (e:=87) (k:=4) (xs:=p6.aT.Cells) (by kernel_rfl) rfl rfl rfl rfl) (aN rfl (aN rfl mW))))))))))))))))))))))))))))))) (aN rfl mW)))
def anI(r:aA×Int)(e:PX)(st:St):Prop:=aV c68 0 ((.bE [(aiD r.1),(dI r.2)]),[]) e st
def agu(a1 a2:Int)(gq jJ:Int)(pR:List ah):St:=⟨(up (up (up u0 6 (pt 56)) 4 (pt 40)) 1 (dI a2)),(up (up (up h0 112 ⟨0,some (.own 87 4 (ak.cells pR))⟩) 56 ⟨0,some (.box ((dI gq)::((dI jJ)::((.r (.aJ 112 0 0 pR.length)):: []))))⟩) 40 mL)⟩
def QO(a1 a2:Int)(gq jJ:Int)(pR:List ah):Option (aA×Int):=((f69 (bQ.mk gq jJ pR)).bind fun z5=>(f102.bind fun z6=>(some ((aA.mk (bQ.mk gq jJ pR) 0 0 false 0 a2 (bw.mk 0 0 0) 12 z6 (1,1) 0 (sX.mk 0 0 (bw.mk 0 0 0) false (1,1) 0) (bQ.mk z5.1 z5.2.1 z5.2.2) ([]) ([])),0))))
theorem Yc(hd:6≤d){a1 a2:Int}{r:aA×Int}(hQ:FQ (anI r) Q){gq jJ:Int}{pR:List ah}(hS:QO a1 a2 gq jJ pR=some r): ∀st,au [1,4,6] [(40,.id 40),(56,.id 56),(112,.id 112)] [.cell 40 2 0 0 1,.cell 40 30 0 0 1,.cell 40 32 0 0 1] st=agu a1 a2 gq jJ pR→ZX d Q ak3 [] st:=by
 intro st he
 exact ay he (zS (zL 3 (zK (aC (cC (cy 2 (aq hS (fun z5 jZ hS=>dr (some 23) none (c1 69 22) (iI (args:= [(.agg ((dI gq)::((dI jJ)::((.r (.aJ 112 0 0 pR.length)):: []))))]) (by kernel_rfl) (jr (aiq (lk (lk (jr (tG ak (e:=87) (k:=4) (xs:=pR) (by kernel_rfl) rfl rfl) l5)))) l5) (Qw (aU hd rfl) jZ) (by simp only [nX ak (fun _=>rfl),nY,nZ,qY,qZ,n7,lZ,n9,q8,q9,ri,Bool.and_true,Bool.or_true,Bool.and_self]) (by kernel_rfl)) (cy 1 (aq hS (fun z6 nH hS=>dr (some 25) none (.call 102 []) (bX (anG (aU hd rfl) nH)) (cy 6 (fL (cj (cM (bk (eA hS hQ (fR Ub))))))))))))))))))
def f68(a1 a2:Int):Option (aA×Int):=((f101 a1 a2 (bw.mk 0 0 0)).bind fun z4=>(bif (!decide (z4.2.2.2=0)) then (some ((aA.mk (bQ.mk 0 0 ([])) 0 0 false 0 0 (bw.mk 0 0 0) 0 (bq.mk (fun _=>0)) (0,0) 0 (sX.mk 0 0 (bw.mk 0 0 0) false (0,0) 0) (bQ.mk 0 0 ([])) ([]) ([])),z4.2.2.2)) else (QO a1 a2 z4.1 z4.2.1 z4.2.2.1)))
theorem auM{d:Nat}(hd:6≤d){a1 a2:Int}{r:aA×Int}(hS:f68 a1 a2=some r):bW av aX d 68 [(dI a1),(dI a2)] []=some ((.bE [(aiD r.1),(dI r.2)]),[]):=by
 refine cL anI hd (fun Q hQ=>?_) al3
 refine zS (zL 2 (zK (zS (zL 3 (aq hS (fun z4 jf hS=>zC 13 (anF (aU hd rfl) jf) (zL 6 (zK (aC (zS (zL 1 (sB 17 hS (fun hS=>?_) (fun hS=>?_)))))))))))))
 ·exact zK (zT (zS (zL 4 (zK (cM (bP (bk (eA hS hQ (fR Ub)))))))))
 ·exact jL (Yc hd hQ hS)
/- (*farwriter/screen.terminal).reset -/
def auN(r:ag×(List bY))(e:PX)(st:St):Prop:=aV abw 4 ((.bE []),[(kW r.1),(aH r.1.af),(aI r.1.af),(.own 111 1 (b_.cells r.2))]) e st
def f224(a1:ag):Option (ag×(List bY)):=((f68 a1.af.aG.bR a1.af.aG.bV).bind fun z2=>(some ((ag.mk ({z2.1 with bn:= []}) a1.sent),a1.af.bn)))
theorem anJ{d:Nat}(hd:7≤d){a1:ag}{r:ag×(List bY)}(hS:f224 a1=some r):bW av aX d 224 [(pt 0)] [(eo a1),(aH a1.af),(aI a1.af),(aM a1.af)]=some ((.bE []),[(kW r.1),(aH r.1.af),(aI r.1.af),(.own 111 1 (b_.cells r.2))]):=by
 refine cL auN hd (fun Q hQ=>?_) aeS
 exact cC (cy 13 (aq hS (fun z2 hz2 hS=>dr (some 16) none (.call 68 [(tm 9),(tm 15)]) (bX (auM (aU hd rfl) hz2)) (cy 6 (fL (nK hS hQ))))))
end
end Go.Proofs.YtimbfadnabfabaaGreatDoor.Pm
