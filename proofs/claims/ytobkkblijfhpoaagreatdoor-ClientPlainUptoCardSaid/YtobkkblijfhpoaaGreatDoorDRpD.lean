/- Typed functions, and that the codes are these. Printed by dec.py. -/
import Derived.Test.YtobkkblijfhpoaaGreatDoorDRpC
namespace Go.Proofs.YtobkkblijfhpoaaGreatDoor.Rp
open Go.Proofs.YtobkkblijfhpoaaGreatDoor.Pm
noncomputable section
set_option maxRecDepth 1000000
set_option maxHeartbeats 20000000
set_option linter.unusedVariables false
set_option linter.unusedSimpArgs false
/- farwriter/farref.Between -/
def GU(p3:Bool):St:=⟨(up u0 6 (dB p3)),h0⟩
theorem n6(p3:Bool):bA (GU p3) 0 yH.res=some ((dB p3),[]):=by
 kernel_rfl
def QI(r:Bool)(e:PX)(st:St):Prop:=bh yH 0 ((dB r),[]) e st
def f127(a1:Int)(a2:Int)(a3:Int):Option (Bool):=(bif (decide (a2≤a1)) then (bif (decide (a1≤a3)) then (some true) else (some false)) else (some false))
theorem jm(base:cX)(d:Nat)(hd:1≤d)(a1:Int)(a2:Int)(a3:Int)(r:Bool)(hS:f127 a1 a2 a3=some r):cg az base d 127 [(dI a1),(dI a2),(dI a3)] []=some ((dB r),[]):=by
 refine k7 GP rfl rfl (Nat.le_trans (Nat.le_of_ble_eq_true rfl) hd) fun Q hQ=>?_
 unfold f127 at hS
 show ZR _ Q D7 [] _
 replace hQ:FQ (QI r) Q:=hQ
 refine ay (aN (zL 1 1 (zE (aq (ay (aN (zL 2 2 ?_)))))))
 refine sB 9 3 (.a_ .leq (tm 7) (tm 8)) hS (fun hS=>?_) (fun hS=>?_)
 ·refine zL 3 6 (sH 13 7 10 true (.a_ .leq (tm 11) (tm 12)) hS (fun hS=>?_) (fun hS=>?_))
  ·refine zL 2 9 (zE (aq ?_))
   exact aG (au (aM hS hQ (fR (n6 true))))
  ·refine zL 2 9 (zE (aq ?_))
   exact aG (au (aM hS hQ (fR (n6 false))))
 ·refine zL 6 9 (zE (aq ?_))
  exact aG (au (aM hS hQ (fR (n6 false))))
/- farwriter/farref.SizeRight -/
def afy(p2:Bool):St:=⟨(up u0 4 (dB p2)),h0⟩
theorem OY(p2:Bool):bA (afy p2) 0 TP.res=some ((dB p2),[]):=by
 kernel_rfl
def atj(r:Bool)(e:PX)(st:St):Prop:=bh TP 0 ((dB r),[]) e st
def f187(a1:Int)(a2:Int):Option (Bool):=((f127 a1 1 160).bind fun z3=>(bif z3 then ((f127 a2 1 60).bind fun z4=>(some z4)) else (some false)))
theorem akM(base:cX)(d:Nat)(hd:2≤d)(a1:Int)(a2:Int)(r:Bool)(hS:f187 a1 a2=some r):cg az base d 187 [(dI a1),(dI a2)] []=some ((dB r),[]):=by
 refine k7 afq rfl rfl (Nat.le_trans (Nat.le_of_ble_eq_true rfl) hd) fun Q hQ=>?_
 unfold f187 at hS
 show ZR _ Q aa4 [] _
 replace hQ:FQ (atj r) Q:=hQ
 refine ay (aN (zL 1 1 (zE (aq (ay (aN (zL 1 1 ?_)))))))
 refine ak hS (fun z3 hz3 hS=>zO (some 6) 2 (.call 127 [(tm 5),(ki 1),(ki 160)]) (aW (jm base (d-1) (bO hd rfl) a1 1 160 z3 hz3)) (zL 1 3 (sL 7 hS (fun hS=>?_) (fun hS=>?_))))
 ·refine zL 1 4 (ak hS (fun z4 jR hS=>zG (some 9) 5 7 true (.call 127 [(tm 8),(ki 1),(ki 60)]) (aW (jm base (d-1) (bO hd rfl) a2 1 60 z4 jR)) (zL 2 7 (zE (aq ?_)))))
  exact aG (au (aM hS hQ (fR (OY z4))))
 ·refine zL 4 7 (zE (aq ?_))
  exact aG (au (aM hS hQ (fR (OY false))))
/- slices.Clone[[]farwriter/api.Cell,farwriter/api.Cell] -/
def qG(p1:List aa):St:=⟨(up u0 2 (.r (.aI 97 0 0 p1.length))),(up h0 97 ⟨0,some (.own 100 4 (ag.cells p1))⟩)⟩
theorem yM(p1:List aa):bA (qG p1) 0 vX.res=some ((.r (.own 0 100 4 p1.length (ag.cells p1))),[]):=by
 exact fK (ids:= []) (ids':= [97]) (l:= [(.r (.aI 97 0 0 p1.length))]) (by kernel_rfl) (by kernel_rfl) (fU ag (e:=100) (k:=4) (xs:=p1) (by kernel_rfl) rfl rfl rfl rfl)
def KU(r:List aa)(e:PX)(st:St):Prop:=bh vX 0 ((.r (.own 0 100 4 r.length (ag.cells r))),[]) e st
def f91(a1:List aa):Option (List aa):=((fT 32 ([]:List aa) a1).bind fun z2=>(some z2))
theorem oz(base:cX)(d:Nat)(hd:1≤d)(a1:List aa)(r:List aa)(hS:f91 a1=some r):cg az base d 91 [(dE ag a1)] []=some ((.r (.own 0 100 4 r.length (ag.cells r))),[]):=by
 refine yC KT rfl rfl (Nat.le_trans (Nat.le_of_ble_eq_true rfl) hd) (fun Q hQ=>?_) (fun h0 Q hQ=>?_)
 ·unfold f91 at hS
  show ZR _ Q CW [] _
  refine ay (aN (zL 1 1 (zE (aq (ay (ay (aN (zL 2 2 (zE (aq (zF ?_)))))))))))
  refine aJ (aq (ay (aN (zL 2 2 ?_))))
  refine ak hS (fun z2 hz2 hS=>zO (v:=(.r (.aI 48 2 0 z2.length))) (aH:= [(48,⟨2,some (.own 100 4 (ag.cells z2))⟩)]) (some 7) 3 (.app 100 4 32 (tm 5) (tm 6)) (fJ ag (b:=48) (g:=1) (n:=([]:List aa).length) (xs:= []) (ys:=a1) ((congrArg (gm _) (by kernel_rfl:cK _ (.tmp 6)=(.iG false a1.length (ag.cells a1)))).trans rfl) rfl (by kernel_rfl) rfl (by kernel_rfl) rfl hz2) (zL 1 4 (zE (aq ?_))))
  exact aG (au (aM (F:=KU) hS hQ (ko (by kernel_rfl) ((congrArg (fun s=>bA s 0 vX.res) (by kernel_rfl:dZ vX.fin _=qG z2)).trans (yM z2)))))
 ·have hS:(some [])=some r:=by
   have hl:=List.eq_nil_of_length_eq_zero h0
   subst hl
   simpa [f91,fT] using hS
  show ZR _ Q CW [] _
  refine ay (aN (zL 1 1 (zE (aq (ay (ay (aN (zL 2 2 (zE (aq (zT (ay (aN (zL 1 1 (zE (aq ?_))))))))))))))))
  exact aG (bD (au (aM (F:=KU) hS hQ (ko (by kernel_rfl) ((congrArg (fun s=>bA s 0 vX.res) (by kernel_rfl:dZ vX.fin _=qG [])).trans (yM []))))))
/- farwriter/farref.Rows -/
def GV(fE:List (List aa)):St:=⟨(up u0 2 (.r (.aI 32 0 0 fE.length))),(up h0 32 ⟨0,some (.own 32 1 ((d_ ag).cells fE))⟩)⟩
theorem GW(fE:List (List aa)):bA (GV fE) 0 yI.res=some ((.r (.own 0 32 1 fE.length ((d_ ag).cells fE))),[]):=by
 exact fK (ids:= []) (ids':= [32]) (l:= [(.r (.aI 32 0 0 fE.length))]) (by kernel_rfl) (by kernel_rfl) (fU (d_ ag) (e:=32) (k:=1) (xs:=fE) (by kernel_rfl) rfl rfl rfl rfl)
def QJ(r:(List (List aa)))(e:PX)(st:St):Prop:=bh yI 0 ((.r (.own 0 32 1 r.length ((d_ ag).cells r))),[]) e st
def CX(a1:aV)(x:(List (List aa))×Int):St:=⟨(up (up (up u0 4 (dI x.2)) 3 (.r (.aI 32 0 0 x.1.length))) 1 (pt 16)),(up (up h0 32 ⟨0,some (.own 32 1 ((d_ ag).cells x.1))⟩) 16 ⟨0,some (.box ((dI a1.bV)::((dI a1.cC)::((dE ag a1.Cells):: []))))⟩)⟩
def jy(a1:aV)(x:(List (List aa))×Int)(st:St):Prop:=aA [1,3,4] [(16,.id 16),(32,.id 32)] [] st=CX a1 x
def lN(a1:aV)(eG:List (List aa)):St:=⟨(up u0 3 (.r (.aI 32 0 0 eG.length))),(up h0 32 ⟨0,some (.own 32 1 ((d_ ag).cells eG))⟩)⟩
def mh(a1:aV)(z:((List (List aa))))(e:PX)(st:St):Prop:=e= .exit 0∧st=lN a1 z
def tM(a1:aV)(dW:List (List aa))(eP:Int):St:=⟨(up (up (up u0 4 (dI eP)) 3 (.r (.aI 32 0 0 dW.length))) 1 (pt 16)),(up (up h0 32 ⟨0,some (.own 32 1 ((d_ ag).cells dW))⟩) 16 ⟨0,some (.box ((dI a1.bV)::((dI a1.cC)::((dE ag a1.Cells):: []))))⟩)⟩
def iN(a1:aV)(dW:List (List aa))(eP:Int):Option (((List (List aa))×Int)⊕(((List (List aa))))):=((ni a1.Cells (IntKind.i64.wrap (eP*a1.bV)) (IntKind.i64.wrap ((IntKind.i64.wrap (eP+1))*a1.bV))).bind fun cO=>((f91 cO).bind fun eJ=>((fT 24 dW ([eJ]:List (List aa))).bind fun z12=>(some (.inl (z12,(IntKind.i64.wrap (eP+1))))))))
theorem qH{base:cX}{d:Nat}(hd:2≤d)(a1:aV){r:((List (List aa))×Int)⊕(((List (List aa))))}{Q:PQ}(hQ:FQ (bS (jy a1) (mh a1) r) Q)(dW:List (List aa))(eP:Int)(hS:iN a1 dW eP=some r){st:St}(he:aA [1,3,4] [(16,.id 16),(32,.id 32)] [] st=tM a1 dW eP):ZR (cg az base (d-1)) Q D8 [] st:=by
 refine aC he ?_
 unfold iN at hS
 refine ay (bF (aN (zL 12 12 ?_)))
 refine ak hS (fun cO jn hS=>zO (v:=(dE ag cO)) (aH:= []) (some 23) 13 (.tD 100 4 (tm 13) (.some (tm 17)) (.some (tm 22))) (I7 ag (xs:=a1.Cells) (a:=(IntKind.i64.wrap (eP*a1.bV))) (c:=(IntKind.i64.wrap ((IntKind.i64.wrap (eP+1))*a1.bV))) (by kernel_rfl) rfl (jQ _ (kk:= .i64) (j:=(IntKind.i64.wrap (eP*a1.bV))) (by kernel_rfl)) (jQ _ (kk:= .i64) (j:=(IntKind.i64.wrap ((IntKind.i64.wrap (eP+1))*a1.bV))) (by kernel_rfl)) jn) (ak hS (fun eJ mF hS=>zO (some 24) 14 (c1 91 23) (aW (oz base (d-1) (bO hd rfl) cO eJ mF)) (zO (v:=(.r (.aI 208 1 0 (([eJ]:List (List aa)).length)))) (aH:= [(200,⟨2,none⟩),(208,⟨1,some (.own 32 1 ((d_ ag).cells ([eJ])))⟩)]) (some 25) 15 (.tC 32 1 1 [(1,(.slice .none 0 0))] [(0,(1,(tm 24)))]) ((by kernel_rfl:aD _ _ 25 (cK _) (.tC 32 1 1 [(1,(.slice .none 0 0))] [(0,(1,(.tmp 24)))])=some ((.r (.aI 208 1 0 (([eJ]:List (List aa)).length))),[(200,⟨2,none⟩),(208,⟨1,some (.own 32 1 [.sl eJ.length (((ag.cells eJ).drop (0*ag.k)).take (eJ.length*ag.k))])⟩)])).trans (by simp only [dJ.II];rfl)) (ak hS (fun z12 iz hS=>zO (v:=(.r (.aI 32 1 0 z12.length))) (aH:= [(32,⟨1,some (.own 32 1 ((d_ ag).cells z12))⟩)]) (some 26) 16 (.app 32 1 24 (tm 11) (tm 25)) (fJ (d_ ag) (b:=32) (g:=0) (n:=dW.length) (xs:=dW) (ys:= [eJ]) ((congrArg (gm _) (by kernel_rfl:cK _ (.tmp 25)=(.r (.aI 208 1 0 (([eJ]:List (List aa)).length))))).trans (en (d_ ag) (e:=32) (k:=1) (xs:= [eJ]) (by kernel_rfl) rfl rfl)) rfl (by kernel_rfl) rfl (by kernel_rfl) rfl iz) (zL 1 17 (zE ?_))))))))
 refine cq (aq (aN (zL 3 3 (zE ?_))))
 exact au (gC hS hQ)
def ic(a1:aV)(x:(List (List aa))×Int):Option (((List (List aa))×Int)⊕(((List (List aa))))):=(bif (decide (x.2<a1.cC)) then (iN a1 x.1 x.2) else (some (.inr x.1)))
theorem yN{base:cX}{d:Nat}(hd:2≤d)(a1:aV){r:((List (List aa))×Int)⊕(((List (List aa))))}{Q:PQ}(hQ:FQ (bS (jy a1) (mh a1) r) Q){x:(List (List aa))×Int}(hS:ic a1 x=some r){st:St}(he:jy a1 x st):ZR (cg az base (d-1)) Q D9 [] st:=by
 refine aC he ?_
 unfold ic at hS
 refine ay (ay (aN (zL 3 3 ?_)))
 refine sB 8 4 (.a_ .lss (tm 5) (tm 7)) hS (fun hS=>?_) (fun hS=>?_)
 ·refine zE (aq (zT ?_))
  exact aJ (aq (qH hd a1 hQ x.1 x.2 hS (by kernel_rfl)))
 ·refine zE (aq (zF ?_))
  exact aC (J:=lN a1 x.1) (by kernel_rfl) (cP (cG (au (iW hS hQ))))
def f180(a1:aV):Option ((List (List aa))):=((bR (ic a1) ([],0)).bind fun fu=>(some fu))
theorem KV(base:cX)(d:Nat)(hd:2≤d)(a1:aV)(r:(List (List aa)))(hS:f180 a1=some r):cg az base d 180 [(.agg ((dI a1.bV)::((dI a1.cC)::((dE ag a1.Cells):: []))))] []=some ((.r (.own 0 32 1 r.length ((d_ ag).cells r))),[]):=by
 refine k7 GS rfl rfl (Nat.le_trans (Nat.le_of_ble_eq_true rfl) hd) fun Q hQ=>?_
 unfold f180 at hS
 show ZR _ Q D_ [] _
 replace hQ:FQ (QJ r) Q:=hQ
 refine ay (aN (zL 2 2 (zE (aq (ay (aN (zL 1 1 (zE (aq (ay (ay (aN (zL 1 1 (zE (aq ?_)))))))))))))))
 refine bF (ak hS (fun fu lO hS=>dD (jy a1) (mh a1) (fun x st r Q h0 hS hQ=>yN hd a1 hQ hS h0) (x:=([],0)) (z:=fu) (by show aA _ _ _ _=_;kernel_rfl) lO ?_))
 intro e bX _ hX
 obtain ⟨rfl,rfl⟩:_∧_:=hX
 refine cQ (aq (ay (aN (zL 2 2 (zE (aq ?_))))))
 exact aG (au (aM hS hQ (fR (GW fu))))
/- farwriter/farref.Two -/
def afz(fE:Int):St:=⟨(up u0 2 (dI fE)),h0⟩
theorem afA(fE:Int):bA (afz fE) 0 TQ.res=some ((dI fE),[]):=by
 kernel_rfl
def atk(r:Int)(e:PX)(st:St):Prop:=bh TQ 0 ((dI r),[]) e st
def X0(a1:Int)(x:Int×Int):St:=⟨(up (up (up u0 5 (dI x.2)) 4 (dI a1)) 3 (dI x.1)),h0⟩
def vY(a1:Int)(x:Int×Int)(st:St):Prop:=aA [3,4,5] [] [] st=X0 a1 x
def BD(a1:Int)(eG:Int):St:=⟨(up u0 3 (dI eG)),h0⟩
def CY(a1:Int)(z:Int)(e:PX)(st:St):Prop:=e= .exit 0∧st=BD a1 z
def Ni(a1:Int)(dW:Int)(eP:Int)(jz:Bool):St:=⟨(up (up (up (up u0 6 (dB jz)) 5 (dI eP)) 4 (dI a1)) 3 (dI dW)),h0⟩
def sy(a1:Int)(dW:Int)(eP:Int)(jz:Bool):Option ((Int×Int)⊕Int):=(bif jz then (some (.inl ((IntKind.i64.wrap (dW*2)),(IntKind.i64.wrap (eP+1))))) else (some (.inr dW)))
theorem yO{base:cX}{d:Nat}(hd:1≤d)(a1:Int){r:(Int×Int)⊕Int}{Q:PQ}(hQ:FQ (bS (vY a1) (CY a1) r) Q)(dW:Int)(eP:Int)(jz:Bool)(hS:sy a1 dW eP jz=some r){st:St}(he:aA [3,4,5,6] [] [] st=Ni a1 dW eP jz):ZR (cg az base (d-1)) Q aa5 [] st:=by
 refine aC he ?_
 unfold sy at hS
 refine ay (sR 6 hS (fun hS=>?_) (fun hS=>?_))
 ·refine zT (aJ (aq (ay ?_)))
  refine bF (aN (zL 3 3 (zE ?_)))
  refine cq (aq (aN (zL 2 2 (zE ?_))))
  exact au (gC hS hQ)
 ·exact zF (aC (J:=BD a1 dW) (by kernel_rfl) (cP (cG (au (iW hS hQ)))))
def yP(a1:Int)(x:Int×Int):Option ((Int×Int)⊕Int):=(bif (decide (x.2<a1)) then (sy a1 x.1 x.2 true) else (sy a1 x.1 x.2 false))
theorem TV{base:cX}{d:Nat}(hd:1≤d)(a1:Int){r:(Int×Int)⊕Int}{Q:PQ}(hQ:FQ (bS (vY a1) (CY a1) r) Q){x:Int×Int}(hS:yP a1 x=some r){st:St}(he:vY a1 x st):ZR (cg az base (d-1)) Q aa6 [] st:=by
 refine aC he ?_
 unfold yP at hS
 refine ay (aN ?_)
 refine sB 6 1 (.a_ .lss (tm 5) (tm 4)) hS (fun hS=>?_) (fun hS=>?_)
 ·refine zE (aq ?_)
  exact yO hd a1 hQ x.1 x.2 true hS (by kernel_rfl)
 ·refine zE (aq ?_)
  exact yO hd a1 hQ x.1 x.2 false hS (by kernel_rfl)
def f262(a1:Int):Option (Int):=((bR (yP a1) (1,0)).bind fun z1=>(some z1))
theorem TX(base:cX)(d:Nat)(hd:1≤d)(a1:Int)(r:Int)(hS:f262 a1=some r):cg az base d 262 [(dI a1)] []=some ((dI r),[]):=by
 refine k7 afx rfl rfl (Nat.le_trans (Nat.le_of_ble_eq_true rfl) hd) fun Q hQ=>?_
 unfold f262 at hS
 show ZR _ Q aa7 [] _
 replace hQ:FQ (atk r) Q:=hQ
 refine ay (aN (zL 1 1 (zE (aq (ay (aN (zL 1 1 (zE (aq (ay (ay (aN (zL 2 2 (zE (aq ?_)))))))))))))))
 refine bF (ak hS (fun z1 hz1 hS=>dD (vY a1) (CY a1) (fun x st r Q h0 hS hQ=>TV hd a1 hQ hS h0) (x:=(1,0)) (z:=z1) (by show aA _ _ _ _=_;kernel_rfl) hz1 ?_))
 intro e bX _ hX
 obtain ⟨rfl,rfl⟩:_∧_:=hX
 refine cQ (aq (ay (aN (zL 2 2 (zE (aq ?_))))))
 exact aG (au (aM hS hQ (fR (afA z1))))
/- farwriter/farref.PenRight -/
def OZ(fE:Int):St:=⟨(up u0 2 (dI fE)),h0⟩
theorem GX(fE:Int):bA (OZ fE) 0 KP.res=some ((dI fE),[]):=by
 kernel_rfl
def aby(r:Int)(e:PX)(st:St):Prop:=bh KP 0 ((dI r),[]) e st
def X5(a1:bq):St:=⟨(up u0 1 (pt 16)),(up h0 16 ⟨0,some (.box ((dI a1.Flags)::((dI a1.cz)::((dI a1.b9):: []))))⟩)⟩
def Eg(a1:bq):Option (Int):=((f127 a1.Flags 0 255).bind fun z20=>(bif (!z20) then (some 4) else (some 0)))
theorem TY{base:cX}{d:Nat}(hd:2≤d)(a1:bq){r:Int}{Q:PQ}(hQ:FQ (aby r) Q)(hS:Eg a1=some r){st:St}(he:aA [1] [(16,.id 16)] [] st=X5 a1):ZR (cg az base (d-1)) Q aba [] st:=by
 refine aC he ?_
 unfold Eg at hS
 refine ay (ay (aN (zL 2 2 ?_)))
 refine ak hS (fun z20 oO hS=>zO (some 29) 3 (.call 127 [(tm 28),(ki 0),(ki 255)]) (aW (jm base (d-1) (bO hd rfl) a1.Flags 0 255 z20 oO)) (zL 1 4 (zE (aq ?_))))
 refine sR 30 hS (fun hS=>?_) (fun hS=>?_)
 ·refine zT (ay (aN (zL 1 1 (zE (aq ?_)))))
  exact aG (bD (au (aM hS hQ (fR (GX 4)))))
 ·refine zF (aJ (aq (ay (aN (zL 1 1 (zE (aq ?_)))))))
  exact aG (au (aM hS hQ (fR (GX 0))))
def X7(a1:bq)(x:Int):St:=⟨(up (up (up (up u0 11 (dI x)) 10 (dI ((([a1.cz,a1.b9]:List Int).length):Int))) 9 (.r (.aI 80 0 0 (([a1.cz,a1.b9]:List Int).length)))) 1 (pt 16)),(up (up h0 80 ⟨0,some (.own 3 1 (eI.cells ([a1.cz,a1.b9])))⟩) 16 ⟨0,some (.box ((dI a1.Flags)::((dI a1.cz)::((dI a1.b9):: []))))⟩)⟩
def qI(a1:bq)(x:Int)(st:St):Prop:=aA [1,9,10,11] [(16,.id 16),(80,.id 80)] [] st=X7 a1 x
def BF(a1:bq):St:=⟨(up u0 1 (pt 16)),(up h0 16 ⟨0,some (.box ((dI a1.Flags)::((dI a1.cz)::((dI a1.b9):: []))))⟩)⟩
def vZ(a1:bq)(z:Unit⊕Int)(e:PX)(st:St):Prop:=(match z with | .inl z=>e= .exit 0∧st=BF a1 | .inr z=>e= .ret∧dZ KP.fin st=OZ z)
def Nj(a1:bq)(eP:Int):St:=⟨(up (up (up (up u0 11 (dI eP)) 10 (dI ((([a1.cz,a1.b9]:List Int).length):Int))) 9 (.r (.aI 80 0 0 (([a1.cz,a1.b9]:List Int).length)))) 1 (pt 16)),(up (up h0 80 ⟨0,some (.own 3 1 (eI.cells ([a1.cz,a1.b9])))⟩) 16 ⟨0,some (.box ((dI a1.Flags)::((dI a1.cz)::((dI a1.b9):: []))))⟩)⟩
def sA(a1:bq)(eP:Int):Option (Int⊕(Unit⊕Int)):=((iJ eP (([a1.cz,a1.b9]:List Int).length)).bind fun m21=>((([a1.cz,a1.b9])[m21]?).bind fun z22=>((f127 z22 0 256).bind fun z23=>(bif (!z23) then ((f262 24).bind fun z24=>((f262 25).bind fun z25=>((f127 z22 z24 (IntKind.i64.wrap (z25-1))).bind fun z26=>(bif (!z26) then (some (.inr (.inr 4))) else (some (.inl (IntKind.i64.wrap (eP+1)))))))) else (some (.inl (IntKind.i64.wrap (eP+1))))))))
theorem KX{base:cX}{d:Nat}(hd:2≤d)(a1:bq){r:Int⊕(Unit⊕Int)}{Q:PQ}(hQ:FQ (bS (qI a1) (vZ a1) r) Q)(eP:Int)(hS:sA a1 eP=some r){st:St}(he:aA [1,9,10,11] [(16,.id 16),(80,.id 80)] [] st=Nj a1 eP):ZR (cg az base (d-1)) Q aa8 [] st:=by
 refine aC he ?_
 unfold sA at hS
 refine ay (bF (ay (aN ?_)))
 refine ak hS (fun m21 akN hS=>zO (v:=(.r (.ptr 80 0 ((0+m21)*1)))) (aH:= []) (some 13) 1 (.fQ 3 1 (tm 9) (tm 11)) (iK (kk:= .i64) (b:=80) (g:=0) (l:=0) (n:=([a1.cz,a1.b9]:List Int).length) (j:=eP) (cs:=eI.cells ([a1.cz,a1.b9])) (by kernel_rfl) (by kernel_rfl) (by kernel_rfl) akN) (ak hS (fun z22 uD hS=>zO (v:=(dI z22)) (aH:= []) (some 14) 2 (lf 1 13) (jl eI (b:=80) (g:=0) (o:=(0+m21)*1) (e:=3) (k:=1) (m:=m21) (fo:=0) (xs:= [a1.cz,a1.b9]) (by kernel_rfl) (by kernel_rfl) (by rw [Nat.zero_add];rfl) uD (by kernel_rfl) (by kernel_rfl) (by kernel_rfl)) (zL 1 3 (zE (aq (ay (aN (zL 1 1 ?_)))))))))
 refine ak hS (fun z23 qJ hS=>zO (some 16) 2 (.call 127 [(tm 15),(ki 0),(ki 256)]) (aW (jm base (d-1) (bO hd rfl) z22 0 256 z23 qJ)) (zL 2 4 (sL 18 hS (fun hS=>?_) (fun hS=>?_))))
 ·refine zL 1 5 (ak hS (fun z24 uE hS=>zG (some 20) 6 18 true (.call 262 [(ki 24)]) (aW (TX base (d-1) (bO hd rfl) 24 z24 uE)) (ak hS (fun z25 nL hS=>zG (some 21) 7 18 true (.call 262 [(ki 25)]) (aW (TX base (d-1) (bO hd rfl) 25 z25 nL)) (zL 1 8 (ak hS (fun z26 nt hS=>zG (some 23) 9 18 true (.call 127 [(tm 19),(tm 20),(tm 22)]) (aW (jm base (d-1) (bO hd rfl) z22 z24 (IntKind.i64.wrap (z25-1)) z26 nt)) (zL 2 11 (zE (aq ?_))))))))))
  refine sR 25 hS (fun hS=>?_) (fun hS=>?_)
  ·refine zT (ay (aN (zL 1 1 (zE (aq ?_)))))
   exact aG (cU (bD (au (xU hS hQ))))
  ·refine zF (aJ (cq (aq (aN (zL 2 2 (zE ?_))))))
   exact au (gC hS hQ)
 ·refine zL 7 11 (zE (aq (zF ?_)))
  refine aJ (cq (aq (aN (zL 2 2 (zE ?_)))))
  exact au (gC hS hQ)
def Nk(a1:bq)(j0:Int)(dW:Bool):St:=⟨(up (up (up (up (up u0 12 (dB dW)) 11 (dI j0)) 10 (dI ((([a1.cz,a1.b9]:List Int).length):Int))) 9 (.r (.aI 80 0 0 (([a1.cz,a1.b9]:List Int).length)))) 1 (pt 16)),(up (up h0 80 ⟨0,some (.own 3 1 (eI.cells ([a1.cz,a1.b9])))⟩) 16 ⟨0,some (.box ((dI a1.Flags)::((dI a1.cz)::((dI a1.b9):: []))))⟩)⟩
def oP(a1:bq)(j0:Int)(dW:Bool):Option (Int⊕(Unit⊕Int)):=(bif dW then (sA a1 j0) else (some (.inr (.inl ()))))
theorem yQ{base:cX}{d:Nat}(hd:2≤d)(a1:bq){r:Int⊕(Unit⊕Int)}{Q:PQ}(hQ:FQ (bS (qI a1) (vZ a1) r) Q)(j0:Int)(dW:Bool)(hS:oP a1 j0 dW=some r){st:St}(he:aA [1,9,10,11,12] [(16,.id 16),(80,.id 80)] [] st=Nk a1 j0 dW):ZR (cg az base (d-1)) Q aa9 [] st:=by
 refine aC he ?_
 unfold oP at hS
 refine ay (sR 12 hS (fun hS=>?_) (fun hS=>?_))
 ·exact zT (aJ (aq (KX hd a1 hQ j0 hS (by kernel_rfl))))
 ·exact zF (aC (J:=BF a1) (by kernel_rfl) (cP (cG (au (iW hS hQ)))))
def yR(a1:bq)(x:Int):Option (Int⊕(Unit⊕Int)):=(bif (decide (x<((([a1.cz,a1.b9]:List Int).length):Int))) then (oP a1 x true) else (oP a1 x false))
theorem TZ{base:cX}{d:Nat}(hd:2≤d)(a1:bq){r:Int⊕(Unit⊕Int)}{Q:PQ}(hQ:FQ (bS (qI a1) (vZ a1) r) Q){x:Int}(hS:yR a1 x=some r){st:St}(he:qI a1 x st):ZR (cg az base (d-1)) Q aa_ [] st:=by
 refine aC he ?_
 unfold yR at hS
 refine ay (aN ?_)
 refine sB 12 1 (.a_ .lss (tm 11) (tm 10)) hS (fun hS=>?_) (fun hS=>?_)
 ·refine zE (aq ?_)
  exact yQ hd a1 hQ x true hS (by kernel_rfl)
 ·refine zE (aq ?_)
  exact yQ hd a1 hQ x false hS (by kernel_rfl)
def f228(a1:bq):Option (Int):=((bR (yR a1) 0).bind fun j4=>(Sum.elim (fun z28=>(Eg a1)) (fun mj=>(some mj)) j4))
theorem T3(base:cX)(d:Nat)(hd:2≤d)(a1:bq)(r:Int)(hS:f228 a1=some r):cg az base d 228 [(.agg ((dI a1.Flags)::((dI a1.cz)::((dI a1.b9):: []))))] []=some ((dI r),[]):=by
 refine k7 afv rfl rfl (Nat.le_trans (Nat.le_of_ble_eq_true rfl) hd) fun Q hQ=>?_
 unfold f228 at hS
 show ZR _ Q abb [] _
 replace hQ:FQ (aby r) Q:=hQ
 refine ay (aN (zL 2 2 (zE (aq (ay (ay (aN (zL 7 7 (zE (aq ?_))))))))))
 refine bF (ak hS (fun j4 sD hS=>dD (qI a1) (vZ a1) (fun x st r Q h0 hS hQ=>TZ hd a1 hQ hS h0) (x:=0) (z:=j4) (by show aA _ _ _ _=_;kernel_rfl) sD ?_))
 rcases j4 with z28 | mj
 ·replace hS:=(show _=_ from hS)
  simp only [IJ] at hS
  intro e bX _ hX
  obtain ⟨rfl,rfl⟩:_∧_:=hX
  exact cQ (aq (TY hd a1 hQ hS (by kernel_rfl)))
 ·simp only [IK] at hS
  intro e bX _ hX
  obtain ⟨rfl,hX⟩:_∧_:=hX
  exact cU (bD (au (aM hS hQ (ko (by kernel_rfl) ((congrArg (fun s=>bA s 0 KP.res) hX).trans (GX mj))))))
/- farwriter/farref.Rune -/
def GY(p2:Bool):St:=⟨(up u0 2 (dB p2)),h0⟩
theorem uF(p2:Bool):bA (GY p2) 0 yJ.res=some ((dB p2),[]):=by
 kernel_rfl
def QK(r:Bool)(e:PX)(st:St):Prop:=bh yJ 0 ((dB r),[]) e st
def f178(a1:Int):Option (Bool):=((f127 a1 0 55295).bind fun z3=>(bif z3 then (some true) else ((f127 a1 57344 1114111).bind fun z4=>(some z4))))
theorem KY(base:cX)(d:Nat)(hd:2≤d)(a1:Int)(r:Bool)(hS:f178 a1=some r):cg az base d 178 [(dI a1)] []=some ((dB r),[]):=by
 refine k7 GR rfl rfl (Nat.le_trans (Nat.le_of_ble_eq_true rfl) hd) fun Q hQ=>?_
 unfold f178 at hS
 show ZR _ Q Ea [] _
 replace hQ:FQ (QK r) Q:=hQ
 refine ay (aN (zL 1 1 (zE (aq (ay (aN (zL 1 1 ?_)))))))
 refine ak hS (fun z3 hz3 hS=>zO (some 4) 2 (.call 127 [(tm 3),(ki 0),(ki 55295)]) (aW (jm base (d-1) (bO hd rfl) a1 0 55295 z3 hz3)) (zL 1 3 (sL 5 hS (fun hS=>?_) (fun hS=>?_))))
 ·refine zL 4 7 (zE (aq ?_))
  exact aG (au (aM hS hQ (fR (uF true))))
 ·refine zL 1 4 (ak hS (fun z4 jR hS=>zG (some 7) 5 5 false (.call 127 [(tm 6),(ki 57344),(ki 1114111)]) (aW (jm base (d-1) (bO hd rfl) a1 57344 1114111 z4 jR)) (zL 2 7 (zE (aq ?_)))))
  exact aG (au (aM hS hQ (fR (uF z4))))
/- farwriter/farref.Width -/
def GZ(lp:Int):St:=⟨(up u0 2 (dI lp)),h0⟩
theorem uG(lp:Int):bA (GZ lp) 0 yK.res=some ((dI lp),[]):=by
 kernel_rfl
def Eh(r:Int)(e:PX)(st:St):Prop:=bh yK 0 ((dI r),[]) e st
def CZ(a1:Int)(x:Int×Int):St:=⟨(up (up (up (up (up u0 45 (dI x.2)) 44 (dI ((([(0,0),(32,1),(127,0),(160,1),(768,0),(880,1),(4352,2),(4448,1),(8203,0),(8208,1),(11904,2),(12351,1),(12353,2),(19904,1),(19968,2),(42192,1),(44032,2),(55204,1),(63744,2),(64256,1),(65024,0),(65040,1),(65072,2),(65136,1),(65280,2),(65377,1),(65504,2),(65511,1),(127744,2),(128592,1),(129280,2),(129536,1),(131072,2),(262142,1)]:List (Int×Int)).length):Int))) 43 (.r (.aI 352 0 0 (([(0,0),(32,1),(127,0),(160,1),(768,0),(880,1),(4352,2),(4448,1),(8203,0),(8208,1),(11904,2),(12351,1),(12353,2),(19904,1),(19968,2),(42192,1),(44032,2),(55204,1),(63744,2),(64256,1),(65024,0),(65040,1),(65072,2),(65136,1),(65280,2),(65377,1),(65504,2),(65511,1),(127744,2),(128592,1),(129280,2),(129536,1),(131072,2),(262142,1)]:List (Int×Int)).length)))) 3 (dI x.1)) 0 (dI a1)),(up h0 352 ⟨0,some (.own 39 2 (ku.cells ([(0,0),(32,1),(127,0),(160,1),(768,0),(880,1),(4352,2),(4448,1),(8203,0),(8208,1),(11904,2),(12351,1),(12353,2),(19904,1),(19968,2),(42192,1),(44032,2),(55204,1),(63744,2),(64256,1),(65024,0),(65040,1),(65072,2),(65136,1),(65280,2),(65377,1),(65504,2),(65511,1),(127744,2),(128592,1),(129280,2),(129536,1),(131072,2),(262142,1)])))⟩)⟩
def ig(a1:Int)(x:Int×Int)(st:St):Prop:=aA [0,3,43,44,45] [(352,.id 352)] [] st=CZ a1 x
def lQ(a1:Int)(iD:Int):St:=⟨(up u0 3 (dI iD)),h0⟩
def jA(a1:Int)(z:Int)(e:PX)(st:St):Prop:=e= .exit 0∧st=lQ a1 z
def tN(a1:Int)(pI:Int)(nu:Int):St:=⟨(up (up (up (up (up u0 45 (dI nu)) 44 (dI ((([(0,0),(32,1),(127,0),(160,1),(768,0),(880,1),(4352,2),(4448,1),(8203,0),(8208,1),(11904,2),(12351,1),(12353,2),(19904,1),(19968,2),(42192,1),(44032,2),(55204,1),(63744,2),(64256,1),(65024,0),(65040,1),(65072,2),(65136,1),(65280,2),(65377,1),(65504,2),(65511,1),(127744,2),(128592,1),(129280,2),(129536,1),(131072,2),(262142,1)]:List (Int×Int)).length):Int))) 43 (.r (.aI 352 0 0 (([(0,0),(32,1),(127,0),(160,1),(768,0),(880,1),(4352,2),(4448,1),(8203,0),(8208,1),(11904,2),(12351,1),(12353,2),(19904,1),(19968,2),(42192,1),(44032,2),(55204,1),(63744,2),(64256,1),(65024,0),(65040,1),(65072,2),(65136,1),(65280,2),(65377,1),(65504,2),(65511,1),(127744,2),(128592,1),(129280,2),(129536,1),(131072,2),(262142,1)]:List (Int×Int)).length)))) 3 (dI pI)) 0 (dI a1)),(up h0 352 ⟨0,some (.own 39 2 (ku.cells ([(0,0),(32,1),(127,0),(160,1),(768,0),(880,1),(4352,2),(4448,1),(8203,0),(8208,1),(11904,2),(12351,1),(12353,2),(19904,1),(19968,2),(42192,1),(44032,2),(55204,1),(63744,2),(64256,1),(65024,0),(65040,1),(65072,2),(65136,1),(65280,2),(65377,1),(65504,2),(65511,1),(127744,2),(128592,1),(129280,2),(129536,1),(131072,2),(262142,1)])))⟩)⟩
def iO(a1:Int)(pI:Int)(nu:Int):Option ((Int×Int)⊕Int):=((iJ nu (([(0,0),(32,1),(127,0),(160,1),(768,0),(880,1),(4352,2),(4448,1),(8203,0),(8208,1),(11904,2),(12351,1),(12353,2),(19904,1),(19968,2),(42192,1),(44032,2),(55204,1),(63744,2),(64256,1),(65024,0),(65040,1),(65072,2),(65136,1),(65280,2),(65377,1),(65504,2),(65511,1),(127744,2),(128592,1),(129280,2),(129536,1),(131072,2),(262142,1)]:List (Int×Int)).length)).bind fun m9=>((([(0,0),(32,1),(127,0),(160,1),(768,0),(880,1),(4352,2),(4448,1),(8203,0),(8208,1),(11904,2),(12351,1),(12353,2),(19904,1),(19968,2),(42192,1),(44032,2),(55204,1),(63744,2),(64256,1),(65024,0),(65040,1),(65072,2),(65136,1),(65280,2),(65377,1),(65504,2),(65511,1),(127744,2),(128592,1),(129280,2),(129536,1),(131072,2),(262142,1)])[m9]?).bind fun cO=>(bif (decide (cO.1≤a1)) then (some (.inl (cO.2,(IntKind.i64.wrap (nu+1))))) else (some (.inl (pI,(IntKind.i64.wrap (nu+1))))))))
theorem qK{base:cX}{d:Nat}(hd:3≤d)(a1:Int){r:(Int×Int)⊕Int}{Q:PQ}(hQ:FQ (bS (ig a1) (jA a1) r) Q)(pI:Int)(nu:Int)(hS:iO a1 pI nu=some r){st:St}(he:aA [0,3,43,44,45] [(352,.id 352)] [] st=tN a1 pI nu):ZR (cg az base (d-1)) Q Eb [] st:=by
 refine aC he ?_
 unfold iO at hS
 refine ay (bF (ay (aN ?_)))
 refine ak hS (fun m9 hm9 hS=>zO (v:=(.r (.ptr 352 0 ((0+m9)*2)))) (aH:= []) (some 47) 1 (.fQ 39 2 (tm 43) (tm 45)) (iK (kk:= .i64) (b:=352) (g:=0) (l:=0) (n:=([(0,0),(32,1),(127,0),(160,1),(768,0),(880,1),(4352,2),(4448,1),(8203,0),(8208,1),(11904,2),(12351,1),(12353,2),(19904,1),(19968,2),(42192,1),(44032,2),(55204,1),(63744,2),(64256,1),(65024,0),(65040,1),(65072,2),(65136,1),(65280,2),(65377,1),(65504,2),(65511,1),(127744,2),(128592,1),(129280,2),(129536,1),(131072,2),(262142,1)]:List (Int×Int)).length) (j:=nu) (cs:=ku.cells ([(0,0),(32,1),(127,0),(160,1),(768,0),(880,1),(4352,2),(4448,1),(8203,0),(8208,1),(11904,2),(12351,1),(12353,2),(19904,1),(19968,2),(42192,1),(44032,2),(55204,1),(63744,2),(64256,1),(65024,0),(65040,1),(65072,2),(65136,1),(65280,2),(65377,1),(65504,2),(65511,1),(127744,2),(128592,1),(129280,2),(129536,1),(131072,2),(262142,1)])) (by kernel_rfl) (by kernel_rfl) (by kernel_rfl) hm9) (ak hS (fun cO jn hS=>zO (v:=(.agg ((dI cO.1)::((dI cO.2):: [])))) (aH:= []) (some 48) 2 (lt 2 47) (jl ku (b:=352) (g:=0) (o:=(0+m9)*2) (e:=39) (k:=2) (m:=m9) (fo:=0) (xs:= [(0,0),(32,1),(127,0),(160,1),(768,0),(880,1),(4352,2),(4448,1),(8203,0),(8208,1),(11904,2),(12351,1),(12353,2),(19904,1),(19968,2),(42192,1),(44032,2),(55204,1),(63744,2),(64256,1),(65024,0),(65040,1),(65072,2),(65136,1),(65280,2),(65377,1),(65504,2),(65511,1),(127744,2),(128592,1),(129280,2),(129536,1),(131072,2),(262142,1)]) (by kernel_rfl) (by kernel_rfl) (by rw [Nat.zero_add];rfl) jn (by kernel_rfl) (by kernel_rfl) (by kernel_rfl)) (zL 2 4 (zE (aq (ay (aN (zL 3 3 ?_)))))))))
 refine sB 52 4 (.a_ .geq (tm 49) (tm 51)) hS (fun hS=>?_) (fun hS=>?_)
 ·refine zE (aq (zT (aN (zL 3 3 (zE ?_)))))
  refine cq (aq (aN (zL 2 2 (zE ?_))))
  exact au (gC hS hQ)
 ·refine zE (aq (zF ?_))
  refine aJ (cq (aq (aN (zL 2 2 (zE ?_)))))
  exact au (gC hS hQ)
def tO(a1:Int)(h_:Int)(j5:Int)(iX:Bool):St:=⟨(up (up (up (up (up (up u0 46 (dB iX)) 45 (dI j5)) 44 (dI ((([(0,0),(32,1),(127,0),(160,1),(768,0),(880,1),(4352,2),(4448,1),(8203,0),(8208,1),(11904,2),(12351,1),(12353,2),(19904,1),(19968,2),(42192,1),(44032,2),(55204,1),(63744,2),(64256,1),(65024,0),(65040,1),(65072,2),(65136,1),(65280,2),(65377,1),(65504,2),(65511,1),(127744,2),(128592,1),(129280,2),(129536,1),(131072,2),(262142,1)]:List (Int×Int)).length):Int))) 43 (.r (.aI 352 0 0 (([(0,0),(32,1),(127,0),(160,1),(768,0),(880,1),(4352,2),(4448,1),(8203,0),(8208,1),(11904,2),(12351,1),(12353,2),(19904,1),(19968,2),(42192,1),(44032,2),(55204,1),(63744,2),(64256,1),(65024,0),(65040,1),(65072,2),(65136,1),(65280,2),(65377,1),(65504,2),(65511,1),(127744,2),(128592,1),(129280,2),(129536,1),(131072,2),(262142,1)]:List (Int×Int)).length)))) 3 (dI h_)) 0 (dI a1)),(up h0 352 ⟨0,some (.own 39 2 (ku.cells ([(0,0),(32,1),(127,0),(160,1),(768,0),(880,1),(4352,2),(4448,1),(8203,0),(8208,1),(11904,2),(12351,1),(12353,2),(19904,1),(19968,2),(42192,1),(44032,2),(55204,1),(63744,2),(64256,1),(65024,0),(65040,1),(65072,2),(65136,1),(65280,2),(65377,1),(65504,2),(65511,1),(127744,2),(128592,1),(129280,2),(129536,1),(131072,2),(262142,1)])))⟩)⟩
def fH(a1:Int)(h_:Int)(j5:Int)(iX:Bool):Option ((Int×Int)⊕Int):=(bif iX then (iO a1 h_ j5) else (some (.inr h_)))
theorem kz{base:cX}{d:Nat}(hd:3≤d)(a1:Int){r:(Int×Int)⊕Int}{Q:PQ}(hQ:FQ (bS (ig a1) (jA a1) r) Q)(h_:Int)(j5:Int)(iX:Bool)(hS:fH a1 h_ j5 iX=some r){st:St}(he:aA [0,3,43,44,45,46] [(352,.id 352)] [] st=tO a1 h_ j5 iX):ZR (cg az base (d-1)) Q Ec [] st:=by
 refine aC he ?_
 unfold fH at hS
 refine ay (sR 46 hS (fun hS=>?_) (fun hS=>?_))
 ·exact zT (aJ (aq (qK hd a1 hQ h_ j5 hS (by kernel_rfl))))
 ·exact zF (aC (J:=lQ a1 h_) (by kernel_rfl) (cP (cG (au (iW hS hQ)))))
def ij(a1:Int)(x:Int×Int):Option ((Int×Int)⊕Int):=(bif (decide (x.2<((([(0,0),(32,1),(127,0),(160,1),(768,0),(880,1),(4352,2),(4448,1),(8203,0),(8208,1),(11904,2),(12351,1),(12353,2),(19904,1),(19968,2),(42192,1),(44032,2),(55204,1),(63744,2),(64256,1),(65024,0),(65040,1),(65072,2),(65136,1),(65280,2),(65377,1),(65504,2),(65511,1),(127744,2),(128592,1),(129280,2),(129536,1),(131072,2),(262142,1)]:List (Int×Int)).length):Int))) then (fH a1 x.1 x.2 true) else (fH a1 x.1 x.2 false))
theorem yS{base:cX}{d:Nat}(hd:3≤d)(a1:Int){r:(Int×Int)⊕Int}{Q:PQ}(hQ:FQ (bS (ig a1) (jA a1) r) Q){x:Int×Int}(hS:ij a1 x=some r){st:St}(he:ig a1 x st):ZR (cg az base (d-1)) Q Ed [] st:=by
 refine aC he ?_
 unfold ij at hS
 refine ay (aN ?_)
 refine sB 46 1 (.a_ .lss (tm 45) (tm 44)) hS (fun hS=>?_) (fun hS=>?_)
 ·refine zE (aq ?_)
  exact kz hd a1 hQ x.1 x.2 true hS (by kernel_rfl)
 ·refine zE (aq ?_)
  exact kz hd a1 hQ x.1 x.2 false hS (by kernel_rfl)
def C0(a1:Int):St:=⟨(up u0 0 (dI a1)),h0⟩
def nv(a1:Int):Option (Int):=((bR (ij a1) (0,0)).bind fun eJ=>(some eJ))
theorem yT{base:cX}{d:Nat}(hd:3≤d)(a1:Int){r:Int}{Q:PQ}(hQ:FQ (Eh r) Q)(hS:nv a1=some r){st:St}(he:aA [0] [] [] st=C0 a1):ZR (cg az base (d-1)) Q Ee [] st:=by
 refine aC he ?_
 unfold nv at hS
 refine ay (aN (zL 1 1 (zE (aq (ay (ay (aN (zL 37 37 (zE (aq ?_))))))))))
 refine bF (ak hS (fun eJ mF hS=>dD (ig a1) (jA a1) (fun x st r Q h0 hS hQ=>yS hd a1 hQ hS h0) (x:=(0,0)) (z:=eJ) (by show aA _ _ _ _=_;kernel_rfl) mF ?_))
 intro e bX _ hX
 obtain ⟨rfl,rfl⟩:_∧_:=hX
 refine cQ (aq (ay (aN (zL 2 2 (zE (aq ?_))))))
 exact aG (au (aM hS hQ (fR (uG eJ))))
def f129(a1:Int):Option (Int):=((f178 a1).bind fun z12=>(bif (!z12) then (some 0) else (nv a1)))
theorem uH(base:cX)(d:Nat)(hd:3≤d)(a1:Int)(r:Int)(hS:f129 a1=some r):cg az base d 129 [(dI a1)] []=some ((dI r),[]):=by
 refine k7 GQ rfl rfl (Nat.le_trans (Nat.le_of_ble_eq_true rfl) hd) fun Q hQ=>?_
 unfold f129 at hS
 show ZR _ Q Ef [] _
 replace hQ:FQ (Eh r) Q:=hQ
 refine ay (aN (zL 1 1 (zE (aq (ay (ay (aN (zL 1 1 ?_))))))))
 refine ak hS (fun z12 iz hS=>zO (some 7) 2 (c1 178 6) (aW (KY base (d-1) (bO hd rfl) a1 z12 iz)) (zL 1 3 (zE (aq ?_))))
 refine sR 8 hS (fun hS=>?_) (fun hS=>?_)
 ·refine zT (ay (aN (zL 1 1 (zE (aq ?_)))))
  exact aG (bD (au (aM hS hQ (fR (uG 0)))))
 ·exact zF (aJ (aq (yT hd a1 hQ hS (by kernel_rfl))))
/- farwriter/farref.wholeCell -/
def afD(p8:Bool):St:=⟨(up u0 4 (dB p8)),h0⟩
theorem lq(p8:Bool):bA (afD p8) 0 TR.res=some ((dB p8),[]):=by
 kernel_rfl
def abz(r:Bool)(e:PX)(st:St):Prop:=bh TR 0 ((dB r),[]) e st
def X8(a1:List aa)(a2:Int):St:=⟨(up (up u0 1 (dI a2)) 0 (dE ag a1)),h0⟩
def Ei(a1:List aa)(a2:Int):Option (Bool):=((idx a1 a2).bind fun fV=>((f129 fV.cW).bind fun f_=>(bif (!decide (f_=2)) then (some true) else (bif (decide ((IntKind.i64.wrap (a2+1))<(a1.length:Int))) then ((idx a1 (IntKind.i64.wrap (a2+1))).bind fun gA=>(bif (decide (gA.cW=0)) then ((idx a1 (IntKind.i64.wrap (a2+1))).bind fun iw=>((idx a1 a2).bind fun z20=>(bif (decide (iw.bM.Flags=z20.bM.Flags)&&(decide (iw.bM.cz=z20.bM.cz)&&(decide (iw.bM.b9=z20.bM.b9)&&true))) then (some true) else (some false)))) else (some false))) else (some false)))))
theorem T4{base:cX}{d:Nat}(hd:4≤d)(a1:List aa)(a2:Int){r:Bool}{Q:PQ}(hQ:FQ (abz r) Q)(hS:Ei a1 a2=some r){st:St}(he:aA [0,1] [] [] st=X8 a1 a2):ZR (cg az base (d-1)) Q abc [] st:=by
 refine aC he ?_
 unfold Ei at hS
 refine ay (ez (dx 2 2 (ak hS (fun fV qL hS=>eT (v:=(.cS (ag.enc fV++(ag.cells (a1.drop ((a2:Int).toNat+1)))))) (aH:= []) (some 39) 3 none (.fQ 100 4 (tm 37) (tm 38)) (eE ag (kk:= .i64) (xs:=a1) (j:=a2) (by kernel_rfl) (by kernel_rfl) qL rfl (by intro h;cases h)) (dx 2 5 (ak hS (fun f_ nM hS=>eT (some 42) 6 none (c1 129 41) (aW (uH base (d-1) (bO hd rfl) fV.cW f_ nM)) (D6 43 7 none (.a_ .neq (tm 42) (ki 2)) hS (fun hS=>?_) (fun hS=>?_)))))))))
 ·exact dx 31 38 (iC (aq (aG (au (aM hS hQ (fR (lq true)))))))
 ·refine dx 5 12 (D6 49 13 (some (44,false)) (.a_ .lss (tm 46) (tm 48)) hS (fun hS=>?_) (fun hS=>?_))
  ·refine dx 4 17 (ak hS (fun gA qM hS=>eT (v:=(.cS (ag.enc gA++(ag.cells (a1.drop (((IntKind.i64.wrap (a2+1)):Int).toNat+1)))))) (aH:= []) (some 54) 18 (some (50,true)) (.fQ 100 4 (tm 51) (tm 53)) (eE ag (kk:= .i64) (xs:=a1) (j:=(IntKind.i64.wrap (a2+1))) (by kernel_rfl) (by kernel_rfl) qM rfl (by intro h;cases h)) (dx 2 20 (D6 57 21 (some (50,true)) (ck 56 0) hS (fun hS=>?_) (fun hS=>?_)))))
   ·refine dx 5 26 (ak hS (fun iw oQ hS=>eT (v:=(.cS (ag.enc iw++(ag.cells (a1.drop (((IntKind.i64.wrap (a2+1)):Int).toNat+1)))))) (aH:= []) (some 63) 27 (some (59,true)) (.fQ 100 4 (tm 60) (tm 62)) (eE ag (kk:= .i64) (xs:=a1) (j:=(IntKind.i64.wrap (a2+1))) (by kernel_rfl) (by kernel_rfl) oQ rfl (by intro h;cases h)) (dx 4 31 (ak hS (fun z20 oO hS=>eT (v:=(.cS (ag.enc z20++(ag.cells (a1.drop ((a2:Int).toNat+1)))))) (aH:= []) (some 68) 32 (some (59,true)) (.fQ 100 4 (tm 66) (tm 67)) (eE ag (kk:= .i64) (xs:=a1) (j:=a2) (by kernel_rfl) (by kernel_rfl) oO rfl (by intro h;cases h)) (dx 2 34 (D6 71 35 (some (59,true)) (.CD .false [(3,.int)] (tm 65) (tm 70)) hS (fun hS=>?_) (fun hS=>?_))))))))
    ·exact dx 3 38 (iC (aq (aG (au (aM hS hQ (fR (lq true)))))))
    ·exact dx 3 38 (iC (aq (aG (au (aM hS hQ (fR (lq false)))))))
   ·exact dx 17 38 (iC (aq (aG (au (aM hS hQ (fR (lq false)))))))
  ·exact dx 25 38 (iC (aq (aG (au (aM hS hQ (fR (lq false)))))))
def f231(a1:List aa)(a2:Int):Option (Bool):=((idx a1 a2).bind fun z22=>(bif (decide (z22.cW=0)) then (bif (decide (0<a2)) then ((idx a1 (IntKind.i64.wrap (a2-1))).bind fun z23=>((f129 z23.cW).bind fun z24=>(bif (decide (z24=2)) then ((idx a1 (IntKind.i64.wrap (a2-1))).bind fun z25=>((idx a1 a2).bind fun z26=>(bif (decide (z25.bM.Flags=z26.bM.Flags)&&(decide (z25.bM.cz=z26.bM.cz)&&(decide (z25.bM.b9=z26.bM.b9)&&true))) then (some true) else (some false)))) else (some false)))) else (some false)) else (Ei a1 a2)))
theorem KZ(base:cX)(d:Nat)(hd:4≤d)(a1:List aa)(a2:Int)(r:Bool)(hS:f231 a1 a2=some r):cg az base d 231 [(dE ag a1),(dI a2)] []=some ((dB r),[]):=by
 refine k7 afw rfl rfl (Nat.le_trans (Nat.le_of_ble_eq_true rfl) hd) fun Q hQ=>?_
 unfold f231 at hS
 show ZR _ Q abd [] _
 replace hQ:FQ (abz r) Q:=hQ
 refine ay (aN (zL 1 1 (zE (aq (ay (ay (aN (zL 2 2 ?_))))))))
 refine ak hS (fun z22 uD hS=>zO (v:=(.cS (ag.enc z22++(ag.cells (a1.drop ((a2:Int).toNat+1)))))) (aH:= []) (some 7) 3 (.fQ 100 4 (tm 5) (tm 6)) (eE ag (kk:= .i64) (xs:=a1) (j:=a2) (by kernel_rfl) (by kernel_rfl) uD rfl (by intro h;cases h)) (zL 2 5 (sB 10 6 (ck 9 0) hS (fun hS=>?_) (fun hS=>?_))))
 ·refine zE (aq (zT (ay ?_)))
  refine ez (dx 1 1 (D6 12 2 none (.a_ .gtr (tm 11) (ki 0)) hS (fun hS=>?_) (fun hS=>?_)))
  ·refine dx 4 6 (ak hS (fun z23 qJ hS=>eT (v:=(.cS (ag.enc z23++(ag.cells (a1.drop (((IntKind.i64.wrap (a2-1)):Int).toNat+1)))))) (aH:= []) (some 17) 7 (some (13,true)) (.fQ 100 4 (tm 14) (tm 16)) (eE ag (kk:= .i64) (xs:=a1) (j:=(IntKind.i64.wrap (a2-1))) (by kernel_rfl) (by kernel_rfl) qJ rfl (by intro h;cases h)) (dx 2 9 (ak hS (fun z24 uE hS=>eT (some 20) 10 (some (13,true)) (c1 129 19) (aW (uH base (d-1) (bO hd rfl) z23.cW z24 uE)) (D6 21 11 (some (13,true)) (ck 20 2) hS (fun hS=>?_) (fun hS=>?_)))))))
   ·refine dx 5 16 (ak hS (fun z25 nL hS=>eT (v:=(.cS (ag.enc z25++(ag.cells (a1.drop (((IntKind.i64.wrap (a2-1)):Int).toNat+1)))))) (aH:= []) (some 27) 17 (some (23,true)) (.fQ 100 4 (tm 24) (tm 26)) (eE ag (kk:= .i64) (xs:=a1) (j:=(IntKind.i64.wrap (a2-1))) (by kernel_rfl) (by kernel_rfl) nL rfl (by intro h;cases h)) (dx 4 21 (ak hS (fun z26 nt hS=>eT (v:=(.cS (ag.enc z26++(ag.cells (a1.drop ((a2:Int).toNat+1)))))) (aH:= []) (some 32) 22 (some (23,true)) (.fQ 100 4 (tm 30) (tm 31)) (eE ag (kk:= .i64) (xs:=a1) (j:=a2) (by kernel_rfl) (by kernel_rfl) nt rfl (by intro h;cases h)) (dx 2 24 (D6 35 25 (some (23,true)) (.CD .false [(3,.int)] (tm 29) (tm 34)) hS (fun hS=>?_) (fun hS=>?_))))))))
    ·exact dx 2 27 (iC (aq (aG (bD (au (aM hS hQ (fR (lq true))))))))
    ·exact dx 2 27 (iC (aq (aG (bD (au (aM hS hQ (fR (lq false))))))))
   ·exact dx 16 27 (iC (aq (aG (bD (au (aM hS hQ (fR (lq false))))))))
  ·exact dx 25 27 (iC (aq (aG (bD (au (aM hS hQ (fR (lq false))))))))
 ·refine zE (aq (zF ?_))
  exact aJ (aq (T4 hd a1 a2 hQ hS (by kernel_rfl)))
/- farwriter/farref.GridRight -/
def G0(abA:Int):St:=⟨(up u0 2 (dI abA)),h0⟩
theorem AD(abA:Int):bA (G0 abA) 0 H7.res=some ((dI abA),[]):=by
 kernel_rfl
def QL(r:Int)(e:PX)(st:St):Prop:=bh H7 0 ((dI r),[]) e st
def X_(a1:aV)(x:(List (List aa))×Int×Int):St:=⟨(up (up (up u0 25 (dI x.2.2)) 24 (dI x.2.1)) 23 (.r (.aI 192 0 0 x.1.length))),(up h0 192 ⟨0,some (.own 32 1 ((d_ ag).cells x.1))⟩)⟩
def qN(a1:aV)(x:(List (List aa))×Int×Int)(st:St):Prop:=aA [23,24,25] [(192,.id 192)] [] st=X_ a1 x
def BG(a1:aV):St:=⟨u0,h0⟩
def v_(a1:aV)(z:Unit⊕Int)(e:PX)(st:St):Prop:=(match z with | .inl z=>e= .exit 0∧st=BG a1 | .inr z=>e= .ret∧dZ H7.fin st=G0 z)
def Nl(a1:aV)(x:(List aa)×(List (List aa))×Int×Int×(List aa)×Int×Int):St:=⟨(up (up (up (up (up (up (up u0 31 (dI x.2.2.2.2.2.2)) 30 (dI x.2.2.2.2.2.1)) 29 (dE ag x.2.2.2.2.1)) 25 (dI x.2.2.2.1)) 24 (dI x.2.2.1)) 23 (.r (.aI 192 0 0 x.2.1.length))) 4 (dE ag x.1)),(up h0 192 ⟨0,some (.own 32 1 ((d_ ag).cells x.2.1))⟩)⟩
def lR(a1:aV)(x:(List aa)×(List (List aa))×Int×Int×(List aa)×Int×Int)(st:St):Prop:=aA [4,23,24,25,29,30,31] [(192,.id 192)] [] st=Nl a1 x
def uI(a1:aV)(aww:List (List aa))(aAz:Int)(aAA:Int):St:=⟨(up (up (up u0 25 (dI aAA)) 24 (dI aAz)) 23 (.r (.aI 192 0 0 aww.length))),(up h0 192 ⟨0,some (.own 32 1 ((d_ ag).cells aww))⟩)⟩
def oA(a1:aV)(z:((List (List aa))×Int×Int)⊕Int)(e:PX)(st:St):Prop:=(match z with | .inl z=>e= .exit 2∧st=uI a1 z.1 z.2.1 z.2.2 | .inr z=>e= .ret∧dZ H7.fin st=G0 z)
def G1(a1:aV)(yU:List aa)(H8:List (List aa))(K7:Int)(K9:Int)(BH:List aa)(K_:Int)(sF:Int):St:=⟨(up (up (up (up (up (up (up u0 31 (dI sF)) 30 (dI K_)) 29 (dE ag BH)) 25 (dI K9)) 24 (dI K7)) 23 (.r (.aI 192 0 0 H8.length))) 4 (dE ag yU)),(up h0 192 ⟨0,some (.own 32 1 ((d_ ag).cells H8))⟩)⟩
def kA(a1:aV)(yU:List aa)(H8:List (List aa))(K7:Int)(K9:Int)(BH:List aa)(K_:Int)(sF:Int):Option (((List aa)×(List (List aa))×Int×Int×(List aa)×Int×Int)⊕(((List (List aa))×Int×Int)⊕Int)):=((idx BH sF).bind fun z124=>((f228 z124.bM).bind fun akO=>(bif (!decide (akO=0)) then (some (.inr (.inr 4))) else (bif (!decide (z124.cW=0)) then ((f129 z124.cW).bind fun akP=>(bif (decide (akP=0)) then (some (.inr (.inr 4))) else ((f231 yU sF).bind fun z127=>(bif (!z127) then (some (.inr (.inr 4))) else (some (.inl (yU,H8,K7,K9,BH,K_,(IntKind.i64.wrap (sF+1))))))))) else ((f231 yU sF).bind fun akQ=>(bif (!akQ) then (some (.inr (.inr 4))) else (some (.inl (yU,H8,K7,K9,BH,K_,(IntKind.i64.wrap (sF+1)))))))))))
theorem Ej{base:cX}{d:Nat}(hd:5≤d)(a1:aV){r:((List aa)×(List (List aa))×Int×Int×(List aa)×Int×Int)⊕(((List (List aa))×Int×Int)⊕Int)}{Q:PQ}(hQ:FQ (bS (lR a1) (oA a1) r) Q)(yU:List aa)(H8:List (List aa))(K7:Int)(K9:Int)(BH:List aa)(K_:Int)(sF:Int)(hS:kA a1 yU H8 K7 K9 BH K_ sF=some r){st:St}(he:aA [4,23,24,25,29,30,31] [(192,.id 192)] [] st=G1 a1 yU H8 K7 K9 BH K_ sF):ZR (cg az base (d-1)) Q abe [] st:=by
 refine aC he ?_
 unfold kA at hS
 refine ay (bF (ay (aN (zL 1 1 ?_))))
 refine ak hS (fun z124 ax0 hS=>zO (v:=(.cS (ag.enc z124++(ag.cells (BH.drop ((sF:Int).toNat+1)))))) (aH:= []) (some 34) 2 (.fQ 100 4 (tm 29) (tm 31)) (eE ag (kk:= .i64) (xs:=BH) (j:=sF) (by kernel_rfl) (by kernel_rfl) ax0 rfl (by intro h;cases h)) (zL 4 6 (zE (aq (ay (aN (zL 2 2 ?_)))))))
 refine ak hS (fun akO ax1 hS=>zO (some 38) 3 (c1 228 37) (aW (T3 base (d-1) (bO hd rfl) z124.bM akO ax1)) (sB 39 4 (.a_ .neq (tm 38) (ki 0)) hS (fun hS=>?_) (fun hS=>?_)))
 ·refine zL 17 21 (zE (aq (zT (ay (aN (zL 1 1 (zE (aq ?_))))))))
  exact aG (cU (bD (au (xU hS hQ))))
 ·refine zL 3 7 (sH 43 8 40 false (.a_ .neq (tm 42) (ki 0)) hS (fun hS=>?_) (fun hS=>?_))
  ·refine zL 3 11 (ak hS (fun akP ax2 hS=>zG (some 47) 12 44 true (c1 129 46) (aW (uH base (d-1) (bO hd rfl) z124.cW akP ax2)) (sH 48 13 44 true (ck 47 0) hS (fun hS=>?_) (fun hS=>?_))))
   ·refine zL 8 21 (zE (aq (zT (ay (aN (zL 1 1 (zE (aq ?_))))))))
    exact aG (cU (bD (au (xU hS hQ))))
   ·refine zL 5 18 (ak hS (fun z127 ax3 hS=>zG (some 54) 19 51 false (.call 231 [(tm 52),(tm 53)]) (aW (KZ base (d-1) (bO hd rfl) yU sF z127 ax3)) (zL 2 21 (zE (aq ?_)))))
    refine sR 56 hS (fun hS=>?_) (fun hS=>?_)
    ·refine zT (ay (aN (zL 1 1 (zE (aq ?_)))))
     exact aG (cU (bD (au (xU hS hQ))))
    ·refine zF (aJ (cq (aq (aN (zL 2 2 (zE ?_))))))
     exact au (gC hS hQ)
  ·refine zL 10 18 (ak hS (fun akQ ax4 hS=>zG (some 54) 19 51 false (.call 231 [(tm 52),(tm 53)]) (aW (KZ base (d-1) (bO hd rfl) yU sF akQ ax4)) (zL 2 21 (zE (aq ?_)))))
   refine sR 56 hS (fun hS=>?_) (fun hS=>?_)
   ·refine zT (ay (aN (zL 1 1 (zE (aq ?_)))))
    exact aG (cU (bD (au (xU hS hQ))))
   ·refine zF (aJ (cq (aq (aN (zL 2 2 (zE ?_))))))
    exact au (gC hS hQ)
def G2(a1:aV)(La:List aa)(BI:List (List aa))(Ek:Int)(El:Int)(Lb:List aa)(Lc:Int)(Ld:Int)(O0:Bool):St:=⟨(up (up (up (up (up (up (up (up u0 32 (dB O0)) 31 (dI Ld)) 30 (dI Lc)) 29 (dE ag Lb)) 25 (dI El)) 24 (dI Ek)) 23 (.r (.aI 192 0 0 BI.length))) 4 (dE ag La)),(up h0 192 ⟨0,some (.own 32 1 ((d_ ag).cells BI))⟩)⟩
def iq(a1:aV)(La:List aa)(BI:List (List aa))(Ek:Int)(El:Int)(Lb:List aa)(Lc:Int)(Ld:Int)(O0:Bool):Option (((List aa)×(List (List aa))×Int×Int×(List aa)×Int×Int)⊕(((List (List aa))×Int×Int)⊕Int)):=(bif O0 then (kA a1 La BI Ek El Lb Lc Ld) else (some (.inr (.inl (BI,Ek,El)))))
theorem sG{base:cX}{d:Nat}(hd:5≤d)(a1:aV){r:((List aa)×(List (List aa))×Int×Int×(List aa)×Int×Int)⊕(((List (List aa))×Int×Int)⊕Int)}{Q:PQ}(hQ:FQ (bS (lR a1) (oA a1) r) Q)(La:List aa)(BI:List (List aa))(Ek:Int)(El:Int)(Lb:List aa)(Lc:Int)(Ld:Int)(O0:Bool)(hS:iq a1 La BI Ek El Lb Lc Ld O0=some r){st:St}(he:aA [4,23,24,25,29,30,31,32] [(192,.id 192)] [] st=G2 a1 La BI Ek El Lb Lc Ld O0):ZR (cg az base (d-1)) Q abf [] st:=by
 refine aC he ?_
 unfold iq at hS
 refine ay (sR 32 hS (fun hS=>?_) (fun hS=>?_))
 ·exact zT (aJ (aq (Ej hd a1 hQ La BI Ek El Lb Lc Ld hS (by kernel_rfl))))
 ·exact zF (aC (J:=uI a1 BI Ek El) (by kernel_rfl) (cP (cG (au (iW hS hQ)))))
def jv(a1:aV)(x:(List aa)×(List (List aa))×Int×Int×(List aa)×Int×Int):Option (((List aa)×(List (List aa))×Int×Int×(List aa)×Int×Int)⊕(((List (List aa))×Int×Int)⊕Int)):=(bif (decide (x.2.2.2.2.2.2<x.2.2.2.2.2.1)) then (iq a1 x.1 x.2.1 x.2.2.1 x.2.2.2.1 x.2.2.2.2.1 x.2.2.2.2.2.1 x.2.2.2.2.2.2 true) else (iq a1 x.1 x.2.1 x.2.2.1 x.2.2.2.1 x.2.2.2.2.1 x.2.2.2.2.2.1 x.2.2.2.2.2.2 false))
theorem Le{base:cX}{d:Nat}(hd:5≤d)(a1:aV){r:((List aa)×(List (List aa))×Int×Int×(List aa)×Int×Int)⊕(((List (List aa))×Int×Int)⊕Int)}{Q:PQ}(hQ:FQ (bS (lR a1) (oA a1) r) Q){x:(List aa)×(List (List aa))×Int×Int×(List aa)×Int×Int}(hS:jv a1 x=some r){st:St}(he:lR a1 x st):ZR (cg az base (d-1)) Q abg [] st:=by
 refine aC he ?_
 unfold jv at hS
 refine ay (aN ?_)
 refine sB 32 1 (.a_ .lss (tm 31) (tm 30)) hS (fun hS=>?_) (fun hS=>?_)
 ·refine zE (aq ?_)
  exact sG hd a1 hQ x.1 x.2.1 x.2.2.1 x.2.2.2.1 x.2.2.2.2.1 x.2.2.2.2.2.1 x.2.2.2.2.2.2 true hS (by kernel_rfl)
 ·refine zE (aq ?_)
  exact sG hd a1 hQ x.1 x.2.1 x.2.2.1 x.2.2.2.1 x.2.2.2.2.1 x.2.2.2.2.2.1 x.2.2.2.2.2.2 false hS (by kernel_rfl)
def Nn(a1:aV)(uJ:List (List aa))(Lf:Int)(Em:Int):St:=⟨(up (up (up u0 25 (dI Em)) 24 (dI Lf)) 23 (.r (.aI 192 0 0 uJ.length))),(up h0 192 ⟨0,some (.own 32 1 ((d_ ag).cells uJ))⟩)⟩
def oT(a1:aV)(uJ:List (List aa))(Lf:Int)(Em:Int):Option (((List (List aa))×Int×Int)⊕(Unit⊕Int)):=((iJ Em uJ.length).bind fun T5=>((uJ[T5]?).bind fun H9=>((bR (jv a1) (H9,uJ,Lf,Em,H9,(H9.length:Int),0)).bind fun abB=>(Sum.elim (fun z130=>(some (.inl (z130.1,z130.2.1,(IntKind.i64.wrap (z130.2.2+1)))))) (fun z131=>(some (.inr (.inr z131)))) abB))))
theorem Lg{base:cX}{d:Nat}(hd:5≤d)(a1:aV){r:((List (List aa))×Int×Int)⊕(Unit⊕Int)}{Q:PQ}(hQ:FQ (bS (qN a1) (v_ a1) r) Q)(uJ:List (List aa))(Lf:Int)(Em:Int)(hS:oT a1 uJ Lf Em=some r){st:St}(he:aA [23,24,25] [(192,.id 192)] [] st=Nn a1 uJ Lf Em):ZR (cg az base (d-1)) Q abh [] st:=by
 refine aC he ?_
 unfold oT at hS
 refine ay (bF (ay (aN ?_)))
 refine ak hS (fun T5 ax5 hS=>zO (v:=(.r (.ptr 192 0 ((0+T5)*1)))) (aH:= []) (some 27) 1 (.fQ 32 1 (tm 23) (tm 25)) (iK (kk:= .i64) (b:=192) (g:=0) (l:=0) (n:=uJ.length) (j:=Em) (cs:=(d_ ag).cells uJ) (by kernel_rfl) (by kernel_rfl) (by kernel_rfl) ax5) (ak hS (fun H9 ax6 hS=>zO (v:=(dE ag H9)) (aH:= []) (some 28) 2 (lf 1 27) (jl (d_ ag) (b:=192) (g:=0) (o:=(0+T5)*1) (e:=32) (k:=1) (m:=T5) (fo:=0) (xs:=uJ) (by kernel_rfl) (by kernel_rfl) (by rw [Nat.zero_add];rfl) ax6 (by kernel_rfl) (by kernel_rfl) (by kernel_rfl)) (zL 1 3 (zE (aq (ay (aN (zL 3 3 (zE (aq ?_)))))))))))
 refine bF (ak hS (fun abB ax7 hS=>dD (lR a1) (oA a1) (fun x st r Q h0 hS hQ=>Le hd a1 hQ hS h0) (x:=(H9,uJ,Lf,Em,H9,(H9.length:Int),0)) (z:=abB) (by show aA _ _ _ _=_;kernel_rfl) ax7 ?_))
 rcases abB with z130 | z131
 ·replace hS:=(show _=_ from hS)
  simp only [IJ] at hS
  intro e bX _ hX
  obtain ⟨rfl,rfl⟩:_∧_:=hX
  refine cQ (cq (aq (aN (zL 2 2 (zE ?_)))))
  exact au (gC hS hQ)
 ·simp only [IK] at hS
  intro e bX _ hX
  obtain ⟨rfl,hX⟩:_∧_:=hX
  exact cU (cU (bD (au (aM hS hQ (Ax (by intro h;cases h) (by show _=_∧_=_;exact ⟨rfl,hX⟩))))))
def Np(a1:aV)(H_:List (List aa))(Lh:Int)(Li:Int)(O1:Bool):St:=⟨(up (up (up (up u0 26 (dB O1)) 25 (dI Li)) 24 (dI Lh)) 23 (.r (.aI 192 0 0 H_.length))),(up h0 192 ⟨0,some (.own 32 1 ((d_ ag).cells H_))⟩)⟩
def kD(a1:aV)(H_:List (List aa))(Lh:Int)(Li:Int)(O1:Bool):Option (((List (List aa))×Int×Int)⊕(Unit⊕Int)):=(bif O1 then (oT a1 H_ Lh Li) else (some (.inr (.inl ()))))
theorem yV{base:cX}{d:Nat}(hd:5≤d)(a1:aV){r:((List (List aa))×Int×Int)⊕(Unit⊕Int)}{Q:PQ}(hQ:FQ (bS (qN a1) (v_ a1) r) Q)(H_:List (List aa))(Lh:Int)(Li:Int)(O1:Bool)(hS:kD a1 H_ Lh Li O1=some r){st:St}(he:aA [23,24,25,26] [(192,.id 192)] [] st=Np a1 H_ Lh Li O1):ZR (cg az base (d-1)) Q abj [] st:=by
 refine aC he ?_
 unfold kD at hS
 refine ay (sR 26 hS (fun hS=>?_) (fun hS=>?_))
 ·exact zT (aJ (aq (Lg hd a1 hQ H_ Lh Li hS (by kernel_rfl))))
 ·exact zF (aC (J:=BG a1) (by kernel_rfl) (cP (cG (au (iW hS hQ)))))
def oU(a1:aV)(x:(List (List aa))×Int×Int):Option (((List (List aa))×Int×Int)⊕(Unit⊕Int)):=(bif (decide (x.2.2<x.2.1)) then (kD a1 x.1 x.2.1 x.2.2 true) else (kD a1 x.1 x.2.1 x.2.2 false))
theorem T6{base:cX}{d:Nat}(hd:5≤d)(a1:aV){r:((List (List aa))×Int×Int)⊕(Unit⊕Int)}{Q:PQ}(hQ:FQ (bS (qN a1) (v_ a1) r) Q){x:(List (List aa))×Int×Int}(hS:oU a1 x=some r){st:St}(he:qN a1 x st):ZR (cg az base (d-1)) Q abk [] st:=by
 refine aC he ?_
 unfold oU at hS
 refine ay (aN ?_)
 refine sB 26 1 (.a_ .lss (tm 25) (tm 24)) hS (fun hS=>?_) (fun hS=>?_)
 ·refine zE (aq ?_)
  exact yV hd a1 hQ x.1 x.2.1 x.2.2 true hS (by kernel_rfl)
 ·refine zE (aq ?_)
  exact yV hd a1 hQ x.1 x.2.1 x.2.2 false hS (by kernel_rfl)
def Ya(a1:aV):St:=⟨(up u0 1 (pt 16)),(up h0 16 ⟨0,some (.box ((dI a1.bV)::((dI a1.cC)::((dE ag a1.Cells):: []))))⟩)⟩
def En(a1:aV):Option (Int):=((f180 a1).bind fun Bj=>((bR (oU a1) (Bj,(Bj.length:Int),0)).bind fun abC=>(Sum.elim (fun aAB=>(some 0)) (fun akR=>(some akR)) abC)))
theorem T7{base:cX}{d:Nat}(hd:5≤d)(a1:aV){r:Int}{Q:PQ}(hQ:FQ (QL r) Q)(hS:En a1=some r){st:St}(he:aA [1] [(16,.id 16)] [] st=Ya a1):ZR (cg az base (d-1)) Q abl [] st:=by
 refine aC he ?_
 unfold En at hS
 refine ay (ay (aN (zL 1 1 ?_)))
 refine ak hS (fun Bj akS hS=>zO (v:=(.r (.aI 192 1 0 Bj.length))) (aH:= [(192,⟨1,some (.own 32 1 ((d_ ag).cells Bj))⟩)]) (some 23) 2 (.eR 180 [(tm 22)]) (dP (args:= [(.agg ((dI a1.bV)::((dI a1.cC)::((dE ag a1.Cells):: []))))]) (args':= [(.agg ((dI a1.bV)::((dI a1.cC)::((dE ag a1.Cells):: []))))]) (l:= [(.agg ((dI a1.bV)::((dI a1.cC)::((dE ag a1.Cells):: []))))]) (refs:= []) (r:=(.r (.own 0 32 1 Bj.length ((d_ ag).cells Bj)))) (v:=(.r (.aI 192 1 0 Bj.length))) (gN:= [(192,⟨1,some (.own 32 1 ((d_ ag).cells Bj))⟩)]) (by kernel_rfl) (by kernel_rfl) (by kernel_rfl) (aY rfl eU) (by kernel_rfl) (KV base (d-1) (bO hd rfl) a1 Bj akS) (by kernel_rfl) (by kernel_rfl) (by kernel_rfl) (by kernel_rfl)) (zL 2 4 (zE (aq ?_))))
 refine bF (ak hS (fun abC ax8 hS=>dD (qN a1) (v_ a1) (fun x st r Q h0 hS hQ=>T6 hd a1 hQ hS h0) (x:=(Bj,(Bj.length:Int),0)) (z:=abC) (by show aA _ _ _ _=_;kernel_rfl) ax8 ?_))
 rcases abC with aAB | akR
 ·replace hS:=(show _=_ from hS)
  simp only [IJ] at hS
  intro e bX _ hX
  obtain ⟨rfl,rfl⟩:_∧_:=hX
  refine cQ (aq (ay (aN (zL 1 1 (zE (aq ?_))))))
  exact aG (au (aM hS hQ (fR (AD 0))))
 ·simp only [IK] at hS
  intro e bX _ hX
  obtain ⟨rfl,hX⟩:_∧_:=hX
  exact cU (bD (au (aM hS hQ (ko (by kernel_rfl) ((congrArg (fun s=>bA s 0 H7.res) hX).trans (AD akR))))))
def Yb(a1:aV):St:=⟨(up u0 1 (pt 16)),(up h0 16 ⟨0,some (.box ((dI a1.bV)::((dI a1.cC)::((dE ag a1.Cells):: []))))⟩)⟩
def Eo(a1:aV):Option (Int):=(bif (!decide ((a1.Cells.length:Int)=(IntKind.i64.wrap (a1.bV*a1.cC)))) then (some 4) else (En a1))
theorem T8{base:cX}{d:Nat}(hd:5≤d)(a1:aV){r:Int}{Q:PQ}(hQ:FQ (QL r) Q)(hS:Eo a1=some r){st:St}(he:aA [1] [(16,.id 16)] [] st=Yb a1):ZR (cg az base (d-1)) Q abm [] st:=by
 refine aC he ?_
 unfold Eo at hS
 refine ay (ay (aN (zL 8 8 ?_)))
 refine sB 21 9 (.a_ .neq (tm 15) (tm 20)) hS (fun hS=>?_) (fun hS=>?_)
 ·refine zE (aq (zT (ay (aN (zL 1 1 (zE (aq ?_)))))))
  exact aG (bD (au (aM hS hQ (fR (AD 4)))))
 ·refine zE (aq (zF ?_))
  exact aJ (aq (T7 hd a1 hQ hS (by kernel_rfl)))
def f227(a1:aV):Option (Int):=((f187 a1.bV a1.cC).bind fun akT=>(bif (!akT) then (some 1) else (Eo a1)))
theorem akU(base:cX)(d:Nat)(hd:5≤d)(a1:aV)(r:Int)(hS:f227 a1=some r):cg az base d 227 [(.agg ((dI a1.bV)::((dI a1.cC)::((dE ag a1.Cells):: []))))] []=some ((dI r),[]):=by
 refine k7 afu rfl rfl (Nat.le_trans (Nat.le_of_ble_eq_true rfl) hd) fun Q hQ=>?_
 unfold f227 at hS
 show ZR _ Q abn [] _
 replace hQ:FQ (QL r) Q:=hQ
 refine ay (aN (zL 2 2 (zE (aq (ay (ay (aN (zL 4 4 ?_))))))))
 refine ak hS (fun akT ax9 hS=>zO (some 11) 5 (.call 187 [(tm 8),(tm 10)]) (aW (akM base (d-1) (bO hd rfl) a1.bV a1.cC akT ax9)) (zL 1 6 (zE (aq ?_))))
 refine sR 12 hS (fun hS=>?_) (fun hS=>?_)
 ·refine zT (ay (aN (zL 1 1 (zE (aq ?_)))))
  exact aG (bD (au (aM hS hQ (fR (AD 1)))))
 ·exact zF (aJ (aq (T8 hd a1 hQ hS (by kernel_rfl))))
/- farwriter/farref.Mended -/
def afE(jJ:List aa):St:=⟨(up u0 2 (.r (.aI 56 0 0 jJ.length))),(up h0 56 ⟨0,some (.own 100 4 (ag.cells jJ))⟩)⟩
theorem afF(jJ:List aa):bA (afE jJ) 0 TS.res=some ((.r (.own 0 100 4 jJ.length (ag.cells jJ))),[]):=by
 exact fK (ids:= []) (ids':= [56]) (l:= [(.r (.aI 56 0 0 jJ.length))]) (by kernel_rfl) (by kernel_rfl) (fU ag (e:=100) (k:=4) (xs:=jJ) (by kernel_rfl) rfl rfl rfl rfl)
def atm(r:(List aa))(e:PX)(st:St):Prop:=bh TS 0 ((.r (.own 0 100 4 r.length (ag.cells r))),[]) e st
def Yc(a1:List aa)(x:(List aa)×Int):St:=⟨(up (up (up (up u0 9 (dI x.2)) 8 (dI (a1.length:Int))) 3 (.r (.aI 56 0 0 x.1.length))) 0 (dE ag a1)),(up h0 56 ⟨0,some (.own 100 4 (ag.cells x.1))⟩)⟩
def qO(a1:List aa)(x:(List aa)×Int)(st:St):Prop:=aA [0,3,8,9] [(56,.id 56)] [] st=Yc a1 x
def BJ(a1:List aa)(jK:List aa):St:=⟨(up u0 3 (.r (.aI 56 0 0 jK.length))),(up h0 56 ⟨0,some (.own 100 4 (ag.cells jK))⟩)⟩
def wh(a1:List aa)(z:((List aa)))(e:PX)(st:St):Prop:=e= .exit 0∧st=BJ a1 z
def BK(a1:List aa)(fL:List aa)(j6:Int):St:=⟨(up (up (up (up u0 9 (dI j6)) 8 (dI (a1.length:Int))) 3 (.r (.aI 56 0 0 fL.length))) 0 (dE ag a1)),(up h0 56 ⟨0,some (.own 100 4 (ag.cells fL))⟩)⟩
def sI(a1:List aa)(fL:List aa)(j6:Int):Option (((List aa)×Int)⊕(((List aa)))):=((f231 a1 j6).bind fun j4=>(bif (!j4) then ((iJ j6 fL.length).bind fun rZ=>((fL[rZ]?).bind fun mj=>((some (fL.set rZ (aa.mk 32 mj.bM))).bind fun jS=>(some (.inl (jS,(IntKind.i64.wrap (j6+1)))))))) else (some (.inl (fL,(IntKind.i64.wrap (j6+1)))))))
theorem Lj{base:cX}{d:Nat}(hd:5≤d)(a1:List aa){r:((List aa)×Int)⊕(((List aa)))}{Q:PQ}(hQ:FQ (bS (qO a1) (wh a1) r) Q)(fL:List aa)(j6:Int)(hS:sI a1 fL j6=some r){st:St}(he:aA [0,3,8,9] [(56,.id 56)] [] st=BK a1 fL j6):ZR (cg az base (d-1)) Q abo [] st:=by
 refine aC he ?_
 unfold sI at hS
 refine ay (bF (ay (aN (zL 2 2 (zE (aq (ay (aN (zL 2 2 ?_)))))))))
 refine ak hS (fun j4 sD hS=>zO (some 14) 3 (.call 231 [(tm 12),(tm 13)]) (aW (KZ base (d-1) (bO hd rfl) a1 j6 j4 sD)) (zL 1 4 (zE (aq ?_))))
 refine sR 15 hS (fun hS=>?_) (fun hS=>?_)
 ·refine zT (aN (zL 2 2 ?_))
  refine ak hS (fun rZ T9 hS=>zO (v:=(.r (.ptr 56 0 ((0+rZ)*4)))) (aH:= []) (some 18) 3 (.fQ 100 4 (tm 16) (tm 17)) (iK (kk:= .i64) (b:=56) (g:=0) (l:=0) (n:=fL.length) (j:=j6) (cs:=ag.cells fL) (by kernel_rfl) (by kernel_rfl) (by kernel_rfl) T9) (zL 1 4 (ak hS (fun mj yX hS=>ak hS (fun jS yY hS=>zO (v:= .un) (aH:= [(56,⟨0,some (.own 100 4 (ag.cells (fL.set rZ (aa.mk 32 mj.bM))))⟩)]) none 5 (.store 1 (tm 19) (ki 32)) (nW ag (b:=56) (g:=0) (o:=(0+rZ)*4+0) (e:=100) (k:=4) (m:=rZ) (fo:=0) (xs:=fL) (z:=mj) (z':=(aa.mk 32 mj.bM)) (by kernel_rfl) (new:=((dI 32):: [])) (ds:= [.int .i64 32]) (by kernel_rfl) (by kernel_rfl) (by kernel_rfl) (by rw [Nat.zero_add];rfl) yX (by kernel_rfl) (by kernel_rfl) (by kernel_rfl)) ?_)))))
  have T_:=Option.some.inj yY
  have akV:fL.length=jS.length:=by rw [←T_,List.length_set]
  rw [T_]
  try delta BK
  try rw [akV]
  refine zE (cq (aq (aN (zL 2 2 (zE ?_)))))
  exact au (gC hS hQ)
 ·refine zF (aJ (cq (aq (aN (zL 2 2 (zE ?_))))))
  exact au (gC hS hQ)
def Nq(a1:List aa)(pJ:List aa)(lG:Int)(mS:Bool):St:=⟨(up (up (up (up (up u0 10 (dB mS)) 9 (dI lG)) 8 (dI (a1.length:Int))) 3 (.r (.aI 56 0 0 pJ.length))) 0 (dE ag a1)),(up h0 56 ⟨0,some (.own 100 4 (ag.cells pJ))⟩)⟩
def mG(a1:List aa)(pJ:List aa)(lG:Int)(mS:Bool):Option (((List aa)×Int)⊕(((List aa)))):=(bif mS then (sI a1 pJ lG) else (some (.inr pJ)))
theorem yZ{base:cX}{d:Nat}(hd:5≤d)(a1:List aa){r:((List aa)×Int)⊕(((List aa)))}{Q:PQ}(hQ:FQ (bS (qO a1) (wh a1) r) Q)(pJ:List aa)(lG:Int)(mS:Bool)(hS:mG a1 pJ lG mS=some r){st:St}(he:aA [0,3,8,9,10] [(56,.id 56)] [] st=Nq a1 pJ lG mS):ZR (cg az base (d-1)) Q abp [] st:=by
 refine aC he ?_
 unfold mG at hS
 refine ay (sR 10 hS (fun hS=>?_) (fun hS=>?_))
 ·exact zT (aJ (aq (Lj hd a1 hQ pJ lG hS (by kernel_rfl))))
 ·exact zF (aC (J:=BJ a1 pJ) (by kernel_rfl) (cP (cG (au (iW hS hQ)))))
def uK(a1:List aa)(x:(List aa)×Int):Option (((List aa)×Int)⊕(((List aa)))):=(bif (decide (x.2<(a1.length:Int))) then (mG a1 x.1 x.2 true) else (mG a1 x.1 x.2 false))
theorem Ua{base:cX}{d:Nat}(hd:5≤d)(a1:List aa){r:((List aa)×Int)⊕(((List aa)))}{Q:PQ}(hQ:FQ (bS (qO a1) (wh a1) r) Q){x:(List aa)×Int}(hS:uK a1 x=some r){st:St}(he:qO a1 x st):ZR (cg az base (d-1)) Q abq [] st:=by
 refine aC he ?_
 unfold uK at hS
 refine ay (aN ?_)
 refine sB 10 1 (.a_ .lss (tm 9) (tm 8)) hS (fun hS=>?_) (fun hS=>?_)
 ·refine zE (aq ?_)
  exact yZ hd a1 hQ x.1 x.2 true hS (by kernel_rfl)
 ·refine zE (aq ?_)
  exact yZ hd a1 hQ x.1 x.2 false hS (by kernel_rfl)
def f190(a1:List aa):Option ((List aa)):=((f91 a1).bind fun mU=>((bR (uK a1) (mU,0)).bind fun z31=>(some z31)))
theorem akW(base:cX)(d:Nat)(hd:5≤d)(a1:List aa)(r:(List aa))(hS:f190 a1=some r):cg az base d 190 [(dE ag a1)] []=some ((.r (.own 0 100 4 r.length (ag.cells r))),[]):=by
 refine k7 aft rfl rfl (Nat.le_trans (Nat.le_of_ble_eq_true rfl) hd) fun Q hQ=>?_
 unfold f190 at hS
 show ZR _ Q abr [] _
 replace hQ:FQ (atm r) Q:=hQ
 refine ay (aN (zL 1 1 (zE (aq (ay (aN (zL 1 1 ?_)))))))
 refine ak hS (fun mU xJ hS=>zO (some 6) 2 (c1 91 5) (aW (oz base (d-1) (bO hd rfl) a1 mU xJ)) (zL 1 3 (zE (aq (ay (ay (aN (zL 3 3 (zE (aq ?_))))))))))
 refine bF (ak hS (fun z31 Ep hS=>dD (qO a1) (wh a1) (fun x st r Q h0 hS hQ=>Ua hd a1 hQ hS h0) (x:=(mU,0)) (z:=z31) (by show aA _ _ _ _=_;kernel_rfl) Ep ?_))
 intro e bX _ hX
 obtain ⟨rfl,rfl⟩:_∧_:=hX
 refine cQ (aq (ay (aN (zL 2 2 (zE (aq ?_))))))
 exact aG (au (aM hS hQ (fR (afF z31))))
/- farwriter/farref.GridOf -/
/- farwriter/farref.Blank -/
def afG(p1:aa):St:=⟨(up u0 2 (pt 24)),(up h0 24 ⟨0,some (.box ((dI p1.cW)::((dI p1.bM.Flags)::((dI p1.bM.cz)::((dI p1.bM.b9):: [])))))⟩)⟩
theorem afH(p1:aa):bA (afG p1) 0 TT.res=some ((.agg ((dI p1.cW)::((dI p1.bM.Flags)::((dI p1.bM.cz)::((dI p1.bM.b9):: []))))),[]):=by
 kernel_rfl
def ato(r:aa)(e:PX)(st:St):Prop:=bh TT 0 ((.agg ((dI r.cW)::((dI r.bM.Flags)::((dI r.bM.cz)::((dI r.bM.b9):: []))))),[]) e st
def f189(a1:bq):Option (aa):=(some (aa.mk 32 a1))
theorem akX(base:cX)(d:Nat)(hd:1≤d)(a1:bq)(r:aa)(hS:f189 a1=some r):cg az base d 189 [(.agg ((dI a1.Flags)::((dI a1.cz)::((dI a1.b9):: []))))] []=some ((.agg ((dI r.cW)::((dI r.bM.Flags)::((dI r.bM.cz)::((dI r.bM.b9):: []))))),[]):=by
 refine k7 afs rfl rfl (Nat.le_trans (Nat.le_of_ble_eq_true rfl) hd) fun Q hQ=>?_
 unfold f189 at hS
 show ZR _ Q abt [] _
 replace hQ:FQ (ato r) Q:=hQ
 refine ay (aN (zL 2 2 (zE (aq (ay (aN (zL 3 3 (zE (aq ?_)))))))))
 exact aG (au (aM hS hQ (fR (afH (aa.mk 32 a1)))))
/- farwriter/farref.Blanks -/
def afI(fA:List aa):St:=⟨(up u0 4 (.r (.aI 72 0 0 fA.length))),(up h0 72 ⟨0,some (.own 100 4 (ag.cells fA))⟩)⟩
theorem afJ(fA:List aa):bA (afI fA) 0 TU.res=some ((.r (.own 0 100 4 fA.length (ag.cells fA))),[]):=by
 exact fK (ids:= []) (ids':= [72]) (l:= [(.r (.aI 72 0 0 fA.length))]) (by kernel_rfl) (by kernel_rfl) (fU ag (e:=100) (k:=4) (xs:=fA) (by kernel_rfl) rfl rfl rfl rfl)
def atq(r:(List aa))(e:PX)(st:St):Prop:=bh TU 0 ((.r (.own 0 100 4 r.length (ag.cells r))),[]) e st
def Yd(a1:Int)(a2:bq)(x:(List aa)×Int×Int):St:=⟨(up (up (up (up u0 11 (dI x.2.2)) 10 (dI x.2.1)) 5 (.r (.aI 72 0 0 x.1.length))) 3 (pt 32)),(up (up h0 72 ⟨0,some (.own 100 4 (ag.cells x.1))⟩) 32 ⟨0,some (.box ((dI a2.Flags)::((dI a2.cz)::((dI a2.b9):: []))))⟩)⟩
def qP(a1:Int)(a2:bq)(x:(List aa)×Int×Int)(st:St):Prop:=aA [3,5,10,11] [(32,.id 32),(72,.id 72)] [] st=Yd a1 a2 x
def BM(a1:Int)(a2:bq)(Bk:List aa):St:=⟨(up u0 5 (.r (.aI 72 0 0 Bk.length))),(up h0 72 ⟨0,some (.own 100 4 (ag.cells Bk))⟩)⟩
def wk(a1:Int)(a2:bq)(z:((List aa)))(e:PX)(st:St):Prop:=e= .exit 0∧st=BM a1 a2 z
def BN(a1:Int)(a2:bq)(fy:List aa)(pK:Int)(tP:Int):St:=⟨(up (up (up (up u0 11 (dI tP)) 10 (dI pK)) 5 (.r (.aI 72 0 0 fy.length))) 3 (pt 32)),(up (up h0 72 ⟨0,some (.own 100 4 (ag.cells fy))⟩) 32 ⟨0,some (.box ((dI a2.Flags)::((dI a2.cz)::((dI a2.b9):: []))))⟩)⟩
def sJ(a1:Int)(a2:bq)(fy:List aa)(pK:Int)(tP:Int):Option (((List aa)×Int×Int)⊕(((List aa)))):=((f189 a2).bind fun j4=>((iJ tP fy.length).bind fun rZ=>((fy[rZ]?).bind fun mj=>((some (fy.set rZ j4)).bind fun jS=>(some (.inl (jS,pK,(IntKind.i64.wrap (tP+1)))))))))
theorem Lk{base:cX}{d:Nat}(hd:2≤d)(a1:Int)(a2:bq){r:((List aa)×Int×Int)⊕(((List aa)))}{Q:PQ}(hQ:FQ (bS (qP a1 a2) (wk a1 a2) r) Q)(fy:List aa)(pK:Int)(tP:Int)(hS:sJ a1 a2 fy pK tP=some r){st:St}(he:aA [3,5,10,11] [(32,.id 32),(72,.id 72)] [] st=BN a1 a2 fy pK tP):ZR (cg az base (d-1)) Q abu [] st:=by
 refine aC he ?_
 unfold sJ at hS
 refine ay (bF (ay (aN (zL 2 2 (zE (aq (aN (zL 3 3 ?_))))))))
 refine ak hS (fun j4 sD hS=>zO (some 17) 4 (c1 189 16) (aW (akX base (d-1) (bO hd rfl) a2 j4 sD)) (ak hS (fun rZ T9 hS=>zO (v:=(.r (.ptr 72 0 ((0+rZ)*4)))) (aH:= []) (some 18) 5 (.fQ 100 4 (tm 14) (tm 15)) (iK (kk:= .i64) (b:=72) (g:=0) (l:=0) (n:=fy.length) (j:=tP) (cs:=ag.cells fy) (by kernel_rfl) (by kernel_rfl) (by kernel_rfl) T9) (ak hS (fun mj yX hS=>ak hS (fun jS yY hS=>zO (v:= .un) (aH:= [(72,⟨0,some (.own 100 4 (ag.cells (fy.set rZ j4)))⟩)]) none 6 (.store 4 (tm 18) (tm 17)) (nW ag (b:=72) (g:=0) (o:=(0+rZ)*4) (e:=100) (k:=4) (m:=rZ) (fo:=0) (xs:=fy) (z:=mj) (z':=j4) (by kernel_rfl) (new:=((dI j4.cW)::((dI j4.bM.Flags)::((dI j4.bM.cz)::((dI j4.bM.b9):: []))))) (ds:= [.int .i64 j4.cW,.int .i64 j4.bM.Flags,.int .i64 j4.bM.cz,.int .i64 j4.bM.b9]) (by kernel_rfl) (by kernel_rfl) (by kernel_rfl) (by rw [Nat.zero_add];rfl) yX (by kernel_rfl) (by kernel_rfl) (by kernel_rfl)) ?_))))))
 have T_:=Option.some.inj yY
 have akV:fy.length=jS.length:=by rw [←T_,List.length_set]
 rw [T_]
 try delta BN
 try rw [akV]
 refine zE (cq (aq (aN (zL 2 2 (zE ?_)))))
 exact au (gC hS hQ)
def Nr(a1:Int)(a2:bq)(fL:List aa)(j6:Int)(pX:Int)(n7:Bool):St:=⟨(up (up (up (up (up u0 12 (dB n7)) 11 (dI pX)) 10 (dI j6)) 5 (.r (.aI 72 0 0 fL.length))) 3 (pt 32)),(up (up h0 72 ⟨0,some (.own 100 4 (ag.cells fL))⟩) 32 ⟨0,some (.box ((dI a2.Flags)::((dI a2.cz)::((dI a2.b9):: []))))⟩)⟩
def mH(a1:Int)(a2:bq)(fL:List aa)(j6:Int)(pX:Int)(n7:Bool):Option (((List aa)×Int×Int)⊕(((List aa)))):=(bif n7 then (sJ a1 a2 fL j6 pX) else (some (.inr fL)))
theorem y4{base:cX}{d:Nat}(hd:2≤d)(a1:Int)(a2:bq){r:((List aa)×Int×Int)⊕(((List aa)))}{Q:PQ}(hQ:FQ (bS (qP a1 a2) (wk a1 a2) r) Q)(fL:List aa)(j6:Int)(pX:Int)(n7:Bool)(hS:mH a1 a2 fL j6 pX n7=some r){st:St}(he:aA [3,5,10,11,12] [(32,.id 32),(72,.id 72)] [] st=Nr a1 a2 fL j6 pX n7):ZR (cg az base (d-1)) Q abv [] st:=by
 refine aC he ?_
 unfold mH at hS
 refine ay (sR 12 hS (fun hS=>?_) (fun hS=>?_))
 ·exact zT (aJ (aq (Lk hd a1 a2 hQ fL j6 pX hS (by kernel_rfl))))
 ·exact zF (aC (J:=BM a1 a2 fL) (by kernel_rfl) (cP (cG (au (iW hS hQ)))))
def uL(a1:Int)(a2:bq)(x:(List aa)×Int×Int):Option (((List aa)×Int×Int)⊕(((List aa)))):=(bif (decide (x.2.2<x.2.1)) then (mH a1 a2 x.1 x.2.1 x.2.2 true) else (mH a1 a2 x.1 x.2.1 x.2.2 false))
theorem Ub{base:cX}{d:Nat}(hd:2≤d)(a1:Int)(a2:bq){r:((List aa)×Int×Int)⊕(((List aa)))}{Q:PQ}(hQ:FQ (bS (qP a1 a2) (wk a1 a2) r) Q){x:(List aa)×Int×Int}(hS:uL a1 a2 x=some r){st:St}(he:qP a1 a2 x st):ZR (cg az base (d-1)) Q abw [] st:=by
 refine aC he ?_
 unfold uL at hS
 refine ay (aN ?_)
 refine sB 12 1 (.a_ .lss (tm 11) (tm 10)) hS (fun hS=>?_) (fun hS=>?_)
 ·refine zE (aq ?_)
  exact y4 hd a1 a2 hQ x.1 x.2.1 x.2.2 true hS (by kernel_rfl)
 ·refine zE (aq ?_)
  exact y4 hd a1 a2 hQ x.1 x.2.1 x.2.2 false hS (by kernel_rfl)
def f188(a1:Int)(a2:bq):Option ((List aa)):=((mk? 32 a1 a1 (aa.mk 0 (bq.mk 0 0 0))).bind fun mU=>((bR (uL a1 a2) (mU,(mU.length:Int),0)).bind fun z31=>(some z31)))
theorem akY(base:cX)(d:Nat)(hd:2≤d)(a1:Int)(a2:bq)(r:(List aa))(hS:f188 a1 a2=some r):cg az base d 188 [(dI a1),(.agg ((dI a2.Flags)::((dI a2.cz)::((dI a2.b9):: []))))] []=some ((.r (.own 0 100 4 r.length (ag.cells r))),[]):=by
 refine k7 afr rfl rfl (Nat.le_trans (Nat.le_of_ble_eq_true rfl) hd) fun Q hQ=>?_
 unfold f188 at hS
 show ZR _ Q abx [] _
 replace hQ:FQ (atq r) Q:=hQ
 refine ay (aN (zL 2 2 (zE (aq (ay (aN (zL 1 1 ?_)))))))
 refine ak hS (fun mU xJ hS=>zO (v:=(.r (.aI 72 1 0 mU.length))) (aH:= [(72,⟨1,some (.own 100 4 (ag.cells mU))⟩)]) (some 8) 2 (.JP 100 4 32 [(4,(.int .i64 0))] (tm 7) (tm 7)) (QA ag (kl:= .i64) (kc:= .i64) (z0:=(aa.mk 0 (bq.mk 0 0 0))) (a:=a1) (c:=a1) (by kernel_rfl) (by kernel_rfl) (by kernel_rfl) rfl xJ) (zL 1 3 (zE (aq (ay (ay (aN (zL 3 3 (zE (aq ?_))))))))))
 refine bF (ak hS (fun z31 Ep hS=>dD (qP a1 a2) (wk a1 a2) (fun x st r Q h0 hS hQ=>Ub hd a1 a2 hQ hS h0) (x:=(mU,(mU.length:Int),0)) (z:=z31) (by show aA _ _ _ _=_;kernel_rfl) Ep ?_))
 intro e bX _ hX
 obtain ⟨rfl,rfl⟩:_∧_:=hX
 refine cQ (aq (ay (aN (zL 2 2 (zE (aq ?_))))))
 exact aG (au (aM hS hQ (fR (afJ z31))))
/- slices.Clone[[][]farwriter/api.Cell,[]farwriter/api.Cell] -/
end
end Go.Proofs.YtobkkblijfhpoaaGreatDoor.Rp
