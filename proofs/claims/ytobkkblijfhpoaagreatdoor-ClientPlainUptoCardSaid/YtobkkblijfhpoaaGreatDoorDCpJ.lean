/- Typed functions, and that the codes are these. Printed by dec.py. -/
import Derived.Test.YtobkkblijfhpoaaGreatDoorDCpI
namespace Go.Proofs.YtobkkblijfhpoaaGreatDoor.Pm
noncomputable section
set_option maxRecDepth 1000000
set_option maxHeartbeats 20000000
set_option linter.unusedVariables false
set_option linter.unusedSimpArgs false
variable {d : Nat} {Q : PQ} {st : St}
/- farwriter/farref.ScreenAct -/
def ars(fA:ah)(lz:S8):St:=⟨(up (up u0 5 (.d (.str lz))) 4 (pt 40)),(up h0 40 ⟨0,some (.box (av fA))⟩)⟩
theorem kS(fA:ah)(lz:S8):bA (ars fA lz) 0 c32.res=some ((.bZ [(.agg (av fA)),(.d (.str lz))]),[]):=by
 kernel_rfl
def Hw(r:ah×S8)(e:PX)(st:St):Prop:=bh c32 0 ((.bZ [(.agg (av r.1)),(.d (.str r.2))]),[]) e st
def aiJ(a1:ah)(a2:aP):St:=⟨(up (up (up u0 4 (pt 40)) 3 (pt 32)) 2 (pt 24)),(up (Ii a2) 24 ⟨0,some (.box (av a1))⟩)⟩
def JF(a1:ah)(a2:aP):Option (ah×S8):=((ni a2.Text 2 (a2.Text.length:Int)).bind fun fu=>(some ({a1 with iF:=fu},[])))
theorem ML(hd:5≤d)(a1:ah)(a2:aP){r:ah×S8}(hQ:FQ (Hw r) Q)(hS:JF a1 a2=some r)(he:aA [2,3,4] [(24,.id 24),(32,.id 32),(40,.id 40)] [.cell 40 2 0 0 1,.cell 40 30 0 0 1,.cell 40 32 0 0 1] st=aiJ a1 a2):ZX d Q aoc [.blk 0,.seq Hf] st:=by
 refine aC he ?_
 unfold JF at hS
 refine aN (zL 2 2 ?_)
 refine ak hS (fun fu lO hS=>zO (v:=(.d (.str fu))) (aH:= []) (some 50) 3 (.tE (tm 49) (.some (ki 2)) .none) (Ay (s:=a2.Text) (a:=2) (c:=(a2.Text.length:Int)) (by kernel_rfl) (jQ _ (kk:= .i64) (j:=2) (by kernel_rfl)) (tJ _) lO) (zL 2 5 (zE ?_)))
 refine cq (aq (zS (zL 3 3 (zK ?_))))
 exact aG (au (aM hS hQ (fR (kS ({a1 with iF:=fu}) []))))
def aiK(a1:ah)(a2:aP)(x:Unit):St:=⟨(up (up (up (up (up (up u0 100 (dI 0)) 99 (dI (a2.Args.length:Int))) 98 (dL a2.Args)) 4 (pt 40)) 3 (pt 32)) 2 (pt 24)),(up (Ii a2) 24 ⟨0,some (.box (av a1))⟩)⟩
def vz(a1:ah)(a2:aP)(x:Unit)(st:St):Prop:=aA [2,3,4,98,99,100] [(24,.id 24),(32,.id 32),(40,.id 40)] [] st=aiK a1 a2 x
def F6(a1:ah)(a2:aP):St:=⟨(up (up u0 4 (pt 40)) 2 (pt 24)),(up (up h0 40 jq) 24 ⟨0,some (.box (av a1))⟩)⟩
def A7(a1:ah)(a2:aP)(z:Unit)(e:PX)(st:St):Prop:=e= .exit 1∧st=F6 a1 a2
def R6(a1:ah)(a2:aP):St:=⟨(up (up (up (up (up (up u0 100 (dI 0)) 99 (dI (a2.Args.length:Int))) 98 (dL a2.Args)) 4 (pt 40)) 3 (pt 32)) 2 (pt 24)),(up (Ii a2) 24 ⟨0,some (.box (av a1))⟩)⟩
def Dk(a1:ah)(a2:aP):Option (Unit⊕Unit):=((idx a2.Args 0).bind fun iw=>(bif (decide (a2.Code=104)) then none else none))
theorem N9(hd:5≤d)(a1:ah)(a2:aP){r:Unit⊕Unit}(hQ:FQ (bS (vz a1 a2) (A7 a1 a2) r) Q)(hS:Dk a1 a2=some r)(he:aA [2,3,4,98,99,100] [(24,.id 24),(32,.id 32),(40,.id 40)] [] st=R6 a1 a2):ZX d Q aod [] st:=by
 refine aC he ?_
 unfold Dk at hS
 refine ay (bF (zS ?_))
 refine ak hS (fun iw oQ hS=>zO (v:=(.cS (eI.enc iw++(eI.cells (a2.Args.drop ((0:Int).toNat+1)))))) (aH:= []) (some 102) 1 (.fQ 3 1 (tm 98) (tm 100)) (eE eI (kk:= .i64) (xs:=a2.Args) (j:=0) (by kernel_rfl) (by kernel_rfl) oQ rfl (by intro h;cases h)) (zL 2 3 (zK (aN (zL 4 4 ?_)))))
 refine sB 108 5 (ck 107 104) hS (fun hS=>?_) (fun hS=>?_)
 ·cases hS
 ·cases hS
def R7(a1:ah)(a2:aP)(lV:Bool):St:=⟨(up (up (up (up (up (up (up u0 101 (dB lV)) 100 (dI 0)) 99 (dI (a2.Args.length:Int))) 98 (dL a2.Args)) 4 (pt 40)) 3 (pt 32)) 2 (pt 24)),(up (Ii a2) 24 ⟨0,some (.box (av a1))⟩)⟩
def xq(a1:ah)(a2:aP)(lV:Bool):Option (Unit⊕Unit):=(bif lV then (Dk a1 a2) else (some (.inr ())))
theorem Cu(hd:5≤d)(a1:ah)(a2:aP){r:Unit⊕Unit}(hQ:FQ (bS (vz a1 a2) (A7 a1 a2) r) Q)(lV:Bool)(hS:xq a1 a2 lV=some r)(he:aA [2,3,4,98,99,100,101] [(24,.id 24),(32,.id 32),(40,.id 40)] [] st=R7 a1 a2 lV):ZX d Q aoe [] st:=by
 refine aC he ?_
 unfold xq at hS
 refine ay (sR 101 hS (fun hS=>?_) (fun hS=>?_))
 ·exact zT (aJ (aq (N9 hd a1 a2 hQ hS (by kernel_rfl))))
 ·exact zF (aC (J:=F6 a1 a2) (by kernel_rfl) (cP (cG (au (iW hS hQ)))))
def R8(a1:ah)(a2:aP)(x:Unit):Option (Unit⊕Unit):=(bif (decide (0<(a2.Args.length:Int))) then (xq a1 a2 true) else (xq a1 a2 false))
theorem aag(hd:5≤d)(a1:ah)(a2:aP){r:Unit⊕Unit}(hQ:FQ (bS (vz a1 a2) (A7 a1 a2) r) Q){x:Unit}(hS:R8 a1 a2 x=some r)(he:vz a1 a2 x st):ZX d Q aof [] st:=by
 refine aC he ?_
 unfold R8 at hS
 refine zS ?_
 refine sB 101 1 (.a_ .lss (tm 100) (tm 99)) hS (fun hS=>?_) (fun hS=>?_)
 ·refine zK ?_
  exact Cu hd a1 a2 hQ true hS (by kernel_rfl)
 ·refine zK ?_
  exact Cu hd a1 a2 hQ false hS (by kernel_rfl)
def aiL(a1:ah)(a2:aP):St:=⟨(up (up (up u0 4 (pt 40)) 3 (pt 32)) 2 (pt 24)),(up (Ii a2) 24 ⟨0,some (.box (av a1))⟩)⟩
def JG(a1:ah)(a2:aP):Option (ah×S8):=((bR (R8 a1 a2) ()).bind fun z20=>(some (a1,[])))
theorem MN(hd:5≤d)(a1:ah)(a2:aP){r:ah×S8}(hQ:FQ (Hw r) Q)(hS:JG a1 a2=some r)(he:aA [2,3,4] [(24,.id 24),(32,.id 32),(40,.id 40)] [] st=aiL a1 a2):ZX d Q aog [.blk 0,.seq Hf] st:=by
 refine aC he ?_
 unfold JG at hS
 refine zS (zL 4 4 (zK ?_))
 refine bF (ak hS (fun z20 oO hS=>dD (vz a1 a2) (A7 a1 a2) (fun x st r Q h0 hS hQ=>aag hd a1 a2 hQ hS h0) (x:=()) (z:=z20) (by show aA _ _ _ _=_;kernel_rfl) oO ?_))
 intro e bX _ hX
 obtain ⟨rfl,rfl⟩:_∧_:=hX
 refine cQ (cq (aq (zS (zL 3 3 (zK ?_)))))
 exact aG (au (aM hS hQ (fR (kS a1 []))))
def aiM(a1:ah)(a2:aP):St:=⟨(up (up (up u0 4 (pt 40)) 3 (pt 32)) 2 (pt 24)),(up (Ii a2) 24 ⟨0,some (.box (av a1))⟩)⟩
def F7(a1:ah)(a2:aP):Option (ah×S8):=(bif (decide (a2.Mark=63)) then (bif (decide (a2.Code=104)) then (JG a1 a2) else (bif (decide (a2.Code=108)) then (JG a1 a2) else (some (a1,[])))) else (some (a1,[])))
theorem Dl(hd:5≤d)(a1:ah)(a2:aP){r:ah×S8}(hQ:FQ (Hw r) Q)(hS:F7 a1 a2=some r)(he:aA [2,3,4] [(24,.id 24),(32,.id 32),(40,.id 40)] [] st=aiM a1 a2):ZX d Q aoh [.blk 0,.seq Hf] st:=by
 refine aC he ?_
 unfold F7 at hS
 refine zS (zL 2 2 ?_)
 refine sB 86 3 (ck 85 63) hS (fun hS=>?_) (fun hS=>?_)
 ·refine zL 3 6 (sH 90 7 87 true (ck 89 104) hS (fun hS=>?_) (fun hS=>?_))
  ·refine zL 6 13 (zK (zT ?_))
   exact MN hd a1 a2 hQ hS (by kernel_rfl)
  ·refine zL 3 10 (sH 94 11 91 false (ck 93 108) hS (fun hS=>?_) (fun hS=>?_))
   ·refine zL 2 13 (zK (zT ?_))
    exact MN hd a1 a2 hQ hS (by kernel_rfl)
   ·refine zL 2 13 (zK (zF ?_))
    refine aJ (cq (aq (zS (zL 3 3 (zK ?_)))))
    exact aG (au (aM hS hQ (fR (kS a1 []))))
 ·refine zL 10 13 (zK (zF ?_))
  refine aJ (cq (aq (zS (zL 3 3 (zK ?_)))))
  exact aG (au (aM hS hQ (fR (kS a1 []))))
def aiN(a1:ah)(a2:aP):St:=⟨(up (up (up u0 4 (pt 40)) 3 (pt 32)) 2 (pt 24)),(up (Ii a2) 24 ⟨0,some (.box (av a1))⟩)⟩
def R9(a1:ah)(a2:aP):Option (ah×S8):=(bif (decide (a2.Mark=62)) then (bif (decide (a2.Code=99)) then ((f81 a2.Args 0 0).bind fun z21=>(bif (decide (z21=0)) then (some (a1,[27,91,62,49,59,49,48,59,48,99])) else (F7 a1 a2))) else (F7 a1 a2)) else (F7 a1 a2))
theorem aah(hd:5≤d)(a1:ah)(a2:aP){r:ah×S8}(hQ:FQ (Hw r) Q)(hS:R9 a1 a2=some r)(he:aA [2,3,4] [(24,.id 24),(32,.id 32),(40,.id 40)] [] st=aiN a1 a2):ZX d Q aoi [.blk 0,.seq Hf] st:=by
 refine aC he ?_
 unfold R9 at hS
 refine ay (zS (zL 2 2 ?_))
 refine sB 71 3 (ck 70 62) hS (fun hS=>?_) (fun hS=>?_)
 ·refine zL 3 6 (sH 75 7 72 true (ck 74 99) hS (fun hS=>?_) (fun hS=>?_))
  ·refine zL 4 11 (ak hS (fun z21 qY hS=>zG (some 80) 12 77 true (.call 81 [(tm 79),(ki 0),(ki 0)]) (aW (avC (d-1) (bO hd rfl) a2.Args 0 0 z21 qY)) (sH 81 13 77 true (ck 80 0) hS (fun hS=>?_) (fun hS=>?_))))
   ·refine zL 1 14 (zK (zT (zS (zL 3 3 (zK ?_)))))
    exact aG (bD (cU (bD (au (aM hS hQ (fR (kS a1 [27,91,62,49,59,49,48,59,48,99])))))))
   ·refine zL 1 14 (zK (zF ?_))
    exact aJ (aq (Dl hd a1 a2 hQ hS (by kernel_rfl)))
  ·refine zL 7 14 (zK (zF ?_))
   exact aJ (aq (Dl hd a1 a2 hQ hS (by kernel_rfl)))
 ·refine zL 11 14 (zK (zF ?_))
  exact aJ (aq (Dl hd a1 a2 hQ hS (by kernel_rfl)))
def aiO(a1:ah)(a2:aP):St:=⟨(up (up (up u0 4 (pt 40)) 3 (pt 32)) 2 (pt 24)),(up (Ii a2) 24 ⟨0,some (.box (av a1))⟩)⟩
def R_(a1:ah)(a2:aP):Option (ah×S8):=(bif (decide (a2.Mark=0)) then none else (R9 a1 a2))
theorem aai(hd:5≤d)(a1:ah)(a2:aP){r:ah×S8}(hQ:FQ (Hw r) Q)(hS:R_ a1 a2=some r)(he:aA [2,3,4] [(24,.id 24),(32,.id 32),(40,.id 40)] [.cell 40 2 0 0 1,.cell 40 30 0 0 1,.cell 40 32 0 0 1] st=aiO a1 a2):ZX d Q aoj [.blk 0,.seq Hf] st:=by
 refine aC he ?_
 unfold R_ at hS
 refine ay (zS (zL 2 2 ?_))
 refine sB 60 3 (ck 59 0) hS (fun hS=>?_) (fun hS=>?_)
 ·refine zK (zT (zS (zL 5 5 ?_)))
  cases hS
 ·refine zK (zF ?_)
  exact aJ (aq (aah hd a1 a2 hQ hS (by kernel_rfl)))
def f32(a1:ah)(a2:aP):Option (ah×S8):=(bif (decide (a2.Kind=1)) then ((f77 a1 a2.Code).bind fun z9=>(some (z9,[]))) else (bif (decide (a2.Kind=2)) then ((f78 a1 a2.Code).bind fun cO=>(some (cO,[]))) else (bif (decide (a2.Kind=3)) then none else (bif (decide (a2.Kind=5)) then (bif (decide (1<(a2.Text.length:Int))) then ((ni a2.Text 0 2).bind fun mU=>(bif (decide (mU=([48,59]:S8))) then (JF a1 a2) else ((ni a2.Text 0 2).bind fun wT=>(bif (decide (wT=([50,59]:S8))) then (JF a1 a2) else (some (a1,[])))))) else (some (a1,[]))) else (bif (decide (a2.Kind=4)) then (bif (!decide (a2.Inter=([]:S8))) then (some (a1,[])) else (R_ a1 a2)) else (some (a1,[])))))))
theorem avD(d:Nat)(hd:5≤d)(a1:ah)(a2:aP)(r:ah×S8)(hS:f32 a1 a2=some r):cg az bE d 32 [(.agg (av a1)),(O_ a2)] []=some ((.bZ [(.agg (av r.1)),(.d (.str r.2))]),[]):=by
 refine dN hd (fun Q hQ=>?_) aoR
 unfold f32 at hS
 show ZR _ Q aok [] _
 replace hQ:FQ (Hw r) Q:=hQ
 refine zS (zL 4 4 (zK (ay (zS (zL 2 2 (zK ?_))))))
 refine bF (zS ?_)
 refine sB 11 1 (ck 9 1) hS (fun hS=>?_) (fun hS=>?_)
 ·refine zL 1 2 (zK (zT (zS (zL 3 3 ?_))))
  refine ak hS (fun z9 zx hS=>zO (v:=(.agg (av z9))) (aH:= []) (some 15) 4 (.eR 77 [(tm 12),(tm 14)]) (dP (args:= [(.agg (av a1)),(dI a2.Code)]) (args':= [(.agg (av a1)),(dI a2.Code)]) (l:= [(.agg (av a1)),(dI a2.Code)]) (refs:= []) (r:=(.agg (av z9))) (v:=(.agg (av z9))) (gN:= []) (by kernel_rfl) (by kernel_rfl) (by kernel_rfl) (aY rfl (aY rfl eU)) (by kernel_rfl) (avA (d-1) (bO hd rfl) a1 a2.Code z9 zx) (by kernel_rfl) (by kernel_rfl) (by kernel_rfl) (by kernel_rfl)) (zL 2 6 (zK ?_)))
  exact aG (cU (bD (au (aM hS hQ (fR (kS z9 []))))))
 ·refine zL 1 2 (zK (zF (zS ?_)))
  refine sB 17 1 (ck 9 2) hS (fun hS=>?_) (fun hS=>?_)
  ·refine zL 1 2 (zK (zT (zS (zL 3 3 ?_))))
   refine ak hS (fun cO jn hS=>zO (v:=(.agg (av cO))) (aH:= []) (some 21) 4 (.eR 78 [(tm 18),(tm 20)]) (dP (args:= [(.agg (av a1)),(dI a2.Code)]) (args':= [(.agg (av a1)),(dI a2.Code)]) (l:= [(.agg (av a1)),(dI a2.Code)]) (refs:= []) (r:=(.agg (av cO))) (v:=(.agg (av cO))) (gN:= []) (by kernel_rfl) (by kernel_rfl) (by kernel_rfl) (aY rfl (aY rfl eU)) (by kernel_rfl) (avB (d-1) (bO hd rfl) a1 a2.Code cO jn) (by kernel_rfl) (by kernel_rfl) (by kernel_rfl) (by kernel_rfl)) (zL 2 6 (zK ?_)))
   exact aG (cU (bD (au (aM hS hQ (fR (kS cO []))))))
  ·refine zL 1 2 (zK (zF (zS ?_)))
   refine sB 23 1 (ck 9 3) hS (fun hS=>?_) (fun hS=>?_)
   ·refine zL 1 2 (zK (zT (zS (zL 5 5 ?_))))
    cases hS
   ·refine zL 1 2 (zK (zF (zS ?_)))
    refine sB 31 1 (ck 9 5) hS (fun hS=>?_) (fun hS=>?_)
    ·refine zL 1 2 (zK (zT (zS (zL 3 3 ?_))))
     refine sB 35 4 (.a_ .gtr (tm 34) (ki 1)) hS (fun hS=>?_) (fun hS=>?_)
     ·refine zL 3 7 (ak hS (fun mU xJ hS=>zG (v:=(.d (.str mU))) (aH:= []) (some 39) 8 36 true (.tE (tm 38) .none (.some (ki 2))) (Ay (s:=a2.Text) (a:=0) (c:=2) (by kernel_rfl) (tJ 0) (jQ _ (kk:= .i64) (j:=2) (by kernel_rfl)) xJ) (sH 40 9 36 true (.lI .eql (tm 39) (.const (.string ⟨#[48,59]⟩))) hS (fun hS=>?_) (fun hS=>?_))))
      ·refine zL 7 16 (zK (zT ?_))
       exact ML hd a1 a2 hQ hS (by kernel_rfl)
      ·refine zL 3 12 (ak hS (fun wT Mf hS=>zG (v:=(.d (.str wT))) (aH:= []) (some 44) 13 41 false (.tE (tm 43) .none (.some (ki 2))) (Ay (s:=a2.Text) (a:=0) (c:=2) (by kernel_rfl) (tJ 0) (jQ _ (kk:= .i64) (j:=2) (by kernel_rfl)) Mf) (sH 45 14 41 false (.lI .eql (tm 44) (.const (.string ⟨#[50,59]⟩))) hS (fun hS=>?_) (fun hS=>?_))))
       ·refine zL 2 16 (zK (zT ?_))
        exact ML hd a1 a2 hQ hS (by kernel_rfl)
       ·refine zL 2 16 (zK (zF ?_))
        refine aJ (cq (aq (zS (zL 3 3 (zK ?_)))))
        exact aG (au (aM hS hQ (fR (kS a1 []))))
     ·refine zL 12 16 (zK (zF ?_))
      refine aJ (cq (aq (zS (zL 3 3 (zK ?_)))))
      exact aG (au (aM hS hQ (fR (kS a1 []))))
    ·refine zL 1 2 (zK (zF (zS ?_)))
     refine sB 53 1 (ck 9 4) hS (fun hS=>?_) (fun hS=>?_)
     ·refine zL 1 2 (zK (zT (ay (zS (zL 2 2 ?_)))))
      refine sB 56 3 (.lI .neq (tm 55) (.const (.string ⟨#[]⟩))) hS (fun hS=>?_) (fun hS=>?_)
      ·refine zK (zT (zS (zL 3 3 (zK ?_))))
       exact aG (bD (cU (bD (au (aM hS hQ (fR (kS a1 [])))))))
      ·refine zK (zF ?_)
       exact aJ (aq (aai hd a1 a2 hQ hS (by kernel_rfl)))
     ·refine zL 1 2 (zK (zF ?_))
      refine aJ (cq (aq (zS (zL 3 3 (zK ?_)))))
      exact aG (au (aM hS hQ (fR (kS a1 []))))
/- farwriter/farref.ScreenDone -/
def art(eP:ah)(jz:S8):St:=⟨(up (up u0 5 (.d (.str jz))) 4 (pt 40)),(up h0 40 ⟨0,some (.box (av eP))⟩)⟩
theorem aru(eP:ah)(jz:S8):bA (art eP jz) 0 c15.res=some ((.bZ [(.agg (av eP)),(.d (.str jz))]),[]):=by
 kernel_rfl
def ay2(r:ah×S8)(e:PX)(st:St):Prop:=bh c15 0 ((.bZ [(.agg (av r.1)),(.d (.str r.2))]),[]) e st
def aiP(a1:ah)(a2:List aP)(x:ah×S8×Int):St:=⟨(up (up (up (up (up (up u0 12 (dI x.2.2)) 11 (dI (a2.length:Int))) 10 (dE bN a2)) 6 (.d (.str x.2.1))) 4 (pt 40)) 2 (pt 24)),(up (up h0 40 jq) 24 ⟨0,some (.box (av x.1))⟩)⟩
def vA(a1:ah)(a2:List aP)(x:ah×S8×Int)(st:St):Prop:=aA [2,4,6,10,11,12] [(24,.id 24),(40,.id 40)] [.cell 40 2 0 0 1,.cell 40 30 0 0 1,.cell 40 32 0 0 1] st=aiP a1 a2 x
def F8(a1:ah)(a2:List aP)(j0:ah)(dW:S8):St:=⟨(up (up (up u0 6 (.d (.str dW))) 4 (pt 40)) 2 (pt 24)),(up (up h0 40 jq) 24 ⟨0,some (.box (av j0))⟩)⟩
def A8(a1:ah)(a2:List aP)(z:(ah×S8))(e:PX)(st:St):Prop:=e= .exit 0∧st=F8 a1 a2 z.1 z.2
def Sa(a1:ah)(a2:List aP)(lp:ah)(nB:S8)(o8:Int):St:=⟨(up (up (up (up (up (up u0 12 (dI o8)) 11 (dI (a2.length:Int))) 10 (dE bN a2)) 6 (.d (.str nB))) 4 (pt 40)) 2 (pt 24)),(up (up h0 40 jq) 24 ⟨0,some (.box (av lp))⟩)⟩
def xw(a1:ah)(a2:List aP)(lp:ah)(nB:S8)(o8:Int):Option ((ah×S8×Int)⊕((ah×S8))):=((idx a2 o8).bind fun cO=>((f32 lp cO).bind fun eJ=>((yA nB eJ.2).bind fun z12=>(some (.inl (eJ.1,z12,(IntKind.i64.wrap (o8+1))))))))
theorem N_(hd:6≤d)(a1:ah)(a2:List aP){r:(ah×S8×Int)⊕((ah×S8))}(hQ:FQ (bS (vA a1 a2) (A8 a1 a2) r) Q)(lp:ah)(nB:S8)(o8:Int)(hS:xw a1 a2 lp nB o8=some r)(he:aA [2,4,6,10,11,12] [(24,.id 24),(40,.id 40)] [] st=Sa a1 a2 lp nB o8):ZX d Q aom [] st:=by
 refine aC he ?_
 unfold xw at hS
 refine ay (bF (zS ?_))
 refine ak hS (fun cO jn hS=>zO (v:=(.cS (bN.enc cO++(bN.cells (a2.drop ((o8:Int).toNat+1)))))) (aH:= []) (some 14) 1 (.fQ 81 6 (tm 10) (tm 12)) (eE bN (kk:= .i64) (xs:=a2) (j:=o8) (by kernel_rfl) (by kernel_rfl) jn rfl (by intro h;cases h)) (zL 3 4 (zK (zS (zL 1 1 (zK (zS (zL 2 2 ?_))))))))
 refine ak hS (fun eJ mF hS=>zO (v:=(.bZ [(.agg (av eJ.1)),(.d (.str eJ.2))])) (aH:= []) (some 19) 3 (.eR 32 [(tm 17),(tm 18)]) (dP (args:= [(.agg (av lp)),(O_ cO)]) (args':= [(.agg (av lp)),(O_ cO)]) (l:= [(.agg (av lp)),(O_ cO)]) (refs:= []) (r:=(.bZ [(.agg (av eJ.1)),(.d (.str eJ.2))])) (v:=(.bZ [(.agg (av eJ.1)),(.d (.str eJ.2))])) (gN:= []) (by kernel_rfl) (by kernel_rfl) (by kernel_rfl) (aY rfl (aY rfl eU)) (by kernel_rfl) (avD (d-1) (bO hd rfl) lp cO eJ mF) (by kernel_rfl) (by kernel_rfl) (by kernel_rfl) (by kernel_rfl)) (zL 5 8 (zK (aN (zL 2 2 ?_)))))
 refine ak hS (fun z12 iz hS=>zO (v:=(.d (.str z12))) (aH:= []) (some 24) 3 (.lI .add (tm 22) (tm 23)) (aaZ (a:=nB) (c:=eJ.2) (by kernel_rfl) (by kernel_rfl) iz) (zL 1 4 (zE ?_)))
 refine cq (aq (aN (zL 2 2 (zE ?_))))
 exact au (gC hS hQ)
def Sb(a1:ah)(a2:List aP)(xV:ah)(xm:S8)(Db:Int)(iD:Bool):St:=⟨(up (up (up (up (up (up (up u0 13 (dB iD)) 12 (dI Db)) 11 (dI (a2.length:Int))) 10 (dE bN a2)) 6 (.d (.str xm))) 4 (pt 40)) 2 (pt 24)),(up (up h0 40 jq) 24 ⟨0,some (.box (av xV))⟩)⟩
def ot(a1:ah)(a2:List aP)(xV:ah)(xm:S8)(Db:Int)(iD:Bool):Option ((ah×S8×Int)⊕((ah×S8))):=(bif iD then (xw a1 a2 xV xm Db) else (some (.inr (xV,xm))))
theorem Cv(hd:6≤d)(a1:ah)(a2:List aP){r:(ah×S8×Int)⊕((ah×S8))}(hQ:FQ (bS (vA a1 a2) (A8 a1 a2) r) Q)(xV:ah)(xm:S8)(Db:Int)(iD:Bool)(hS:ot a1 a2 xV xm Db iD=some r)(he:aA [2,4,6,10,11,12,13] [(24,.id 24),(40,.id 40)] [] st=Sb a1 a2 xV xm Db iD):ZX d Q aon [] st:=by
 refine aC he ?_
 unfold ot at hS
 refine ay (sR 13 hS (fun hS=>?_) (fun hS=>?_))
 ·exact zT (aJ (aq (N_ hd a1 a2 hQ xV xm Db hS (by kernel_rfl))))
 ·exact zF (aC (J:=F8 a1 a2 xV xm) (by kernel_rfl) (cP (cG (au (iW hS hQ)))))
def xx(a1:ah)(a2:List aP)(x:ah×S8×Int):Option ((ah×S8×Int)⊕((ah×S8))):=(bif (decide (x.2.2<(a2.length:Int))) then (ot a1 a2 x.1 x.2.1 x.2.2 true) else (ot a1 a2 x.1 x.2.1 x.2.2 false))
theorem aaj(hd:6≤d)(a1:ah)(a2:List aP){r:(ah×S8×Int)⊕((ah×S8))}(hQ:FQ (bS (vA a1 a2) (A8 a1 a2) r) Q){x:ah×S8×Int}(hS:xx a1 a2 x=some r)(he:vA a1 a2 x st):ZX d Q aoo [] st:=by
 refine aC he ?_
 unfold xx at hS
 refine zS ?_
 refine sB 13 1 (.a_ .lss (tm 12) (tm 11)) hS (fun hS=>?_) (fun hS=>?_)
 ·refine zK ?_
  exact Cv hd a1 a2 hQ x.1 x.2.1 x.2.2 true hS (by kernel_rfl)
 ·refine zK ?_
  exact Cv hd a1 a2 hQ x.1 x.2.1 x.2.2 false hS (by kernel_rfl)
def f15(a1:ah)(a2:List aP):Option (ah×S8):=((bR (xx a1 a2) (a1,[],0)).bind fun fu=>(some (fu.1,fu.2)))
theorem avE(d:Nat)(hd:6≤d)(a1:ah)(a2:List aP)(r:ah×S8)(hS:f15 a1 a2=some r):cg az bE d 15 [(.agg (av a1)),(dE bN a2)] []=some ((.bZ [(.agg (av r.1)),(.d (.str r.2))]),[]):=by
 refine dN hd (fun Q hQ=>?_) aoH
 unfold f15 at hS
 show ZR _ Q aop [] _
 replace hQ:FQ (ay2 r) Q:=hQ
 refine zS (zL 3 3 (zK (zS (zL 1 1 (zK (ay (zS (zL 3 3 (zK ?_)))))))))
 refine bF (ak hS (fun fu lO hS=>dD (vA a1 a2) (A8 a1 a2) (fun x st r Q h0 hS hQ=>aaj hd a1 a2 hQ hS h0) (x:=(a1,[],0)) (z:=fu) (by show aA _ _ _ _=_;kernel_rfl) lO ?_))
 intro e bX _ hX
 obtain ⟨rfl,rfl⟩:_∧_:=hX
 refine cQ (aq (zS (zL 4 4 (zK ?_))))
 exact aG (au (aM hS hQ (fR (aru fu.1 fu.2))))
/- slices.Equal[[]farwriter/api.Cell,farwriter/api.Cell] -/
def Ws(j7:Bool):St:=⟨(up u0 4 (dB j7)),h0⟩
theorem MO(j7:Bool):bA (Ws j7) 0 YF.res=some ((dB j7),[]):=by
 kernel_rfl
def arv(r:Bool)(e:PX)(st:St):Prop:=bh YF 0 ((dB r),[]) e st
def aiQ(a1:List aa)(a2:List aa)(x:Int):St:=⟨(up (up (up (up u0 13 (dI x)) 12 (dI (a1.length:Int))) 1 (dE ag a2)) 0 (dE ag a1)),h0⟩
def vB(a1:List aa)(a2:List aa)(x:Int)(st:St):Prop:=aA [0,1,12,13] [] [] st=aiQ a1 a2 x
def F9(a1:List aa)(a2:List aa):St:=⟨u0,h0⟩
def A9(a1:List aa)(a2:List aa)(z:Unit⊕Bool)(e:PX)(st:St):Prop:=(match z with | .inl z=>e= .exit 0∧st=F9 a1 a2 | .inr z=>e= .ret∧dZ YF.fin st=Ws z)
def Sc(a1:List aa)(a2:List aa)(jJ:Int):St:=⟨(up (up (up (up u0 13 (dI jJ)) 12 (dI (a1.length:Int))) 1 (dE ag a2)) 0 (dE ag a1)),h0⟩
def xy(a1:List aa)(a2:List aa)(jJ:Int):Option (Int⊕(Unit⊕Bool)):=((idx a1 jJ).bind fun z7=>((idx a2 jJ).bind fun z8=>(bif (!(decide (z7.cW=z8.cW)&&(decide (z7.bM.Flags=z8.bM.Flags)&&(decide (z7.bM.cz=z8.bM.cz)&&(decide (z7.bM.b9=z8.bM.b9)&&true))))) then (some (.inr (.inr false))) else (some (.inl (IntKind.i64.wrap (jJ+1)))))))
theorem Oa(hd:1≤d)(a1:List aa)(a2:List aa){r:Int⊕(Unit⊕Bool)}(hQ:FQ (bS (vB a1 a2) (A9 a1 a2) r) Q)(jJ:Int)(hS:xy a1 a2 jJ=some r)(he:aA [0,1,12,13] [] [] st=Sc a1 a2 jJ):ZX d Q aoq [] st:=by
 refine aC he ?_
 unfold xy at hS
 refine ay (bF (zS (zL 2 2 (zK (ay ?_)))))
 refine ez (dx 2 2 (ak hS (fun z7 tW hS=>eT (v:=(.cS (ag.enc z7++(ag.cells (a1.drop ((jJ:Int).toNat+1)))))) (aH:= []) (some 18) 3 none (.fQ 100 4 (tm 16) (tm 17)) (eE ag (kk:= .i64) (xs:=a1) (j:=jJ) (by kernel_rfl) (by kernel_rfl) tW rfl (by intro h;cases h)) (dx 3 6 (ak hS (fun z8 wC hS=>eT (v:=(.cS (ag.enc z8++(ag.cells (a2.drop ((jJ:Int).toNat+1)))))) (aH:= []) (some 22) 7 none (.fQ 100 4 (tm 20) (tm 21)) (eE ag (kk:= .i64) (xs:=a2) (j:=jJ) (by kernel_rfl) (by kernel_rfl) wC rfl (by intro h;cases h)) (dx 1 8 (D6 24 9 none (.CD .true [(4,.int)] (tm 19) (tm 23)) hS (fun hS=>?_) (fun hS=>?_)))))))))
 ·refine iC (aq (zT (zS (zL 1 1 (zK ?_)))))
  exact aG (cU (bD (au (xU hS hQ))))
 ·refine iC (aq (zF ?_))
  refine aJ (cq (aq (aN (zL 2 2 (zE ?_)))))
  exact au (gC hS hQ)
def Sd(a1:List aa)(a2:List aa)(eP:Int)(jz:Bool):St:=⟨(up (up (up (up (up u0 14 (dB jz)) 13 (dI eP)) 12 (dI (a1.length:Int))) 1 (dE ag a2)) 0 (dE ag a1)),h0⟩
def ou(a1:List aa)(a2:List aa)(eP:Int)(jz:Bool):Option (Int⊕(Unit⊕Bool)):=(bif jz then (xy a1 a2 eP) else (some (.inr (.inl ()))))
theorem Cw(hd:1≤d)(a1:List aa)(a2:List aa){r:Int⊕(Unit⊕Bool)}(hQ:FQ (bS (vB a1 a2) (A9 a1 a2) r) Q)(eP:Int)(jz:Bool)(hS:ou a1 a2 eP jz=some r)(he:aA [0,1,12,13,14] [] [] st=Sd a1 a2 eP jz):ZX d Q aor [] st:=by
 refine aC he ?_
 unfold ou at hS
 refine ay (sR 14 hS (fun hS=>?_) (fun hS=>?_))
 ·exact zT (aJ (aq (Oa hd a1 a2 hQ eP hS (by kernel_rfl))))
 ·exact zF (aC (J:=F9 a1 a2) (by kernel_rfl) (cP (cG (au (iW hS hQ)))))
def xz(a1:List aa)(a2:List aa)(x:Int):Option (Int⊕(Unit⊕Bool)):=(bif (decide (x<(a1.length:Int))) then (ou a1 a2 x true) else (ou a1 a2 x false))
theorem aak(hd:1≤d)(a1:List aa)(a2:List aa){r:Int⊕(Unit⊕Bool)}(hQ:FQ (bS (vB a1 a2) (A9 a1 a2) r) Q){x:Int}(hS:xz a1 a2 x=some r)(he:vB a1 a2 x st):ZX d Q aos [] st:=by
 refine aC he ?_
 unfold xz at hS
 refine zS ?_
 refine sB 14 1 (.a_ .lss (tm 13) (tm 12)) hS (fun hS=>?_) (fun hS=>?_)
 ·refine zK ?_
  exact Cw hd a1 a2 hQ x true hS (by kernel_rfl)
 ·refine zK ?_
  exact Cw hd a1 a2 hQ x false hS (by kernel_rfl)
def aiR(a1:List aa)(a2:List aa):St:=⟨(up (up u0 1 (dE ag a2)) 0 (dE ag a1)),h0⟩
def JH(a1:List aa)(a2:List aa):Option (Bool):=((bR (xz a1 a2) 0).bind fun z9=>(Sum.elim (fun cO=>(some true)) (fun eJ=>(some eJ)) z9))
theorem aal(hd:1≤d)(a1:List aa)(a2:List aa){r:Bool}(hQ:FQ (arv r) Q)(hS:JH a1 a2=some r)(he:aA [0,1] [] [] st=aiR a1 a2):ZX d Q aot [] st:=by
 refine aC he ?_
 unfold JH at hS
 refine ay (zS (zL 3 3 (zK ?_)))
 refine bF (ak hS (fun z9 zx hS=>dD (vB a1 a2) (A9 a1 a2) (fun x st r Q h0 hS hQ=>aak hd a1 a2 hQ hS h0) (x:=0) (z:=z9) (by show aA _ _ _ _=_;kernel_rfl) zx ?_))
 rcases z9 with cO | eJ
 ·replace hS:=(show _=_ from hS)
  simp only [IJ] at hS
  intro e bX _ hX
  obtain ⟨rfl,rfl⟩:_∧_:=hX
  refine cQ (aq (zS (zL 1 1 (zK ?_))))
  exact aG (au (aM hS hQ (fR (MO true))))
 ·simp only [IK] at hS
  intro e bX _ hX
  obtain ⟨rfl,hX⟩:_∧_:=hX
  exact cU (bD (au (aM hS hQ (ko (by kernel_rfl) ((congrArg (fun s=>bA s 0 YF.res) hX).trans (MO eJ))))))
def f36(a1:List aa)(a2:List aa):Option (Bool):=(bif (!decide ((a1.length:Int)=(a2.length:Int))) then (some false) else (JH a1 a2))
theorem aej(d:Nat)(hd:1≤d)(a1:List aa)(a2:List aa)(r:Bool)(hS:f36 a1 a2=some r):cg az bE d 36 [(dE ag a1),(dE ag a2)] []=some ((dB r),[]):=by
 refine dN hd (fun Q hQ=>?_) aoV
 unfold f36 at hS
 show ZR _ Q aou [] _
 replace hQ:FQ (arv r) Q:=hQ
 refine zS (zL 1 1 (zK (ay (zS (zL 4 4 ?_)))))
 refine sB 10 5 (.a_ .neq (tm 7) (tm 9)) hS (fun hS=>?_) (fun hS=>?_)
 ·refine zK (zT (zS (zL 1 1 (zK ?_))))
  exact aG (bD (au (aM hS hQ (fR (MO false)))))
 ·refine zK (zF ?_)
  exact aJ (aq (aal hd a1 a2 hQ hS (by kernel_rfl)))
/- farwriter/farref.SameGrid -/
def arw(p3:Bool):St:=⟨(up u0 4 (dB p3)),h0⟩
theorem MP(p3:Bool):bA (arw p3) 0 c33.res=some ((dB p3),[]):=by
 kernel_rfl
def ay3(r:Bool)(e:PX)(st:St):Prop:=bh c33 0 ((dB r),[]) e st
def f33(a1:aV)(a2:aV):Option (Bool):=(bif (decide (a1.bV=a2.bV)) then (bif (decide (a1.cC=a2.cC)) then ((f36 a1.Cells a2.Cells).bind fun z2=>(some z2)) else (some false)) else (some false))
theorem aek(d:Nat)(hd:2≤d)(a1:aV)(a2:aV)(r:Bool)(hS:f33 a1 a2=some r):cg az bE d 33 [(.agg (iZ a1)),(.agg (iZ a2))] []=some ((dB r),[]):=by
 refine dN hd (fun Q hQ=>?_) aoS
 unfold f33 at hS
 show ZR _ Q aov [] _
 replace hQ:FQ (ay3 r) Q:=hQ
 refine zS (zL 3 3 (zK (zS (zL 4 4 ?_))))
 refine sB 9 5 (.a_ .eql (tm 6) (tm 8)) hS (fun hS=>?_) (fun hS=>?_)
 ·refine zL 5 10 (sH 15 11 10 true (.a_ .eql (tm 12) (tm 14)) hS (fun hS=>?_) (fun hS=>?_))
  ·refine zL 6 17 (ak hS (fun z2 hz2 hS=>zG (some 22) 18 17 true (.call 36 [(tm 19),(tm 21)]) (aW (aej (d-1) (bO hd rfl) a1.Cells a2.Cells z2 hz2)) (zL 2 20 (zK ?_))))
   exact aG (au (aM hS hQ (fR (MP z2))))
  ·refine zL 9 20 (zK ?_)
   exact aG (au (aM hS hQ (fR (MP false))))
 ·refine zL 15 20 (zK ?_)
  exact aG (au (aM hS hQ (fR (MP false))))
/- farwriter/farref.SameScreen$1 -/
def arx(p1:Bool):St:=⟨(up u0 4 (dB p1)),h0⟩
theorem ary(p1:Bool):bA (arx p1) 0 c35.res=some ((dB p1),[]):=by
 kernel_rfl
def ay4(r:Bool)(e:PX)(st:St):Prop:=bh c35 0 ((dB r),[]) e st
def f35(a1:bk)(a2:bk):Option (Bool):=((f36 a1.Cells a2.Cells).bind fun z2=>(some z2))
theorem avF(d:Nat)(hd:2≤d)(a1:bk)(a2:bk)(r:Bool)(hS:f35 a1 a2=some r):cg az bE d 35 [(.agg ((dE ag a1.Cells):: [])),(.agg ((dE ag a2.Cells):: []))] []=some ((dB r),[]):=by
 refine dN hd (fun Q hQ=>?_) aoU
 unfold f35 at hS
 show ZR _ Q aox [] _
 replace hQ:FQ (ay4 r) Q:=hQ
 refine zS (zL 3 3 (zK (zS (zL 4 4 ?_))))
 refine ak hS (fun z2 hz2 hS=>zO (some 9) 5 (.call 36 [(tm 6),(tm 8)]) (aW (aej (d-1) (bO hd rfl) a1.Cells a2.Cells z2 hz2)) (zL 1 6 (zK ?_)))
 exact aG (au (aM hS hQ (fR (ary z2))))
/- slices.EqualFunc[[]farwriter/api.Line,[]farwriter/api.Line,farwriter/api.Line,farwriter/api.Line] -/
def Wu(p9:Bool):St:=⟨(up u0 6 (dB p9)),h0⟩
theorem MQ(p9:Bool):bA (Wu p9) 0 YG.res=some ((dB p9),[]):=by
 kernel_rfl
def arz(r:Bool)(e:PX)(st:St):Prop:=bh YG 0 ((dB r),[]) e st
def aiS(a1:List bk)(a2:List bk)(x:Int):St:=⟨(up (up (up (up (up u0 17 (dI x)) 16 (dI (a1.length:Int))) 15 (dE bJ a1)) 2 (.fn 35 [])) 1 (dE bJ a2)),h0⟩
def vD(a1:List bk)(a2:List bk)(x:Int)(st:St):Prop:=aA [1,2,15,16,17] [] [] st=aiS a1 a2 x
def F_(a1:List bk)(a2:List bk):St:=⟨u0,h0⟩
def A_(a1:List bk)(a2:List bk)(z:Unit⊕Bool)(e:PX)(st:St):Prop:=(match z with | .inl z=>e= .exit 0∧st=F_ a1 a2 | .inr z=>e= .ret∧dZ YG.fin st=Wu z)
def Sh(a1:List bk)(a2:List bk)(ir:Int):St:=⟨(up (up (up (up (up u0 17 (dI ir)) 16 (dI (a1.length:Int))) 15 (dE bJ a1)) 2 (.fn 35 [])) 1 (dE bJ a2)),h0⟩
def xA(a1:List bk)(a2:List bk)(ir:Int):Option (Int⊕(Unit⊕Bool)):=((idx a1 ir).bind fun cO=>((idx a2 ir).bind fun eJ=>((f35 cO eJ).bind fun z12=>(bif (!z12) then (some (.inr (.inr false))) else (some (.inl (IntKind.i64.wrap (ir+1))))))))
theorem Ob(hd:3≤d)(a1:List bk)(a2:List bk){r:Int⊕(Unit⊕Bool)}(hQ:FQ (bS (vD a1 a2) (A_ a1 a2) r) Q)(ir:Int)(hS:xA a1 a2 ir=some r)(he:aA [1,2,15,16,17] [] [] st=Sh a1 a2 ir):ZX d Q aoz [] st:=by
 refine aC he ?_
 unfold xA at hS
 refine ay (bF (zS (zL 1 1 ?_)))
 refine ak hS (fun cO jn hS=>zO (v:=(.cS (bJ.enc cO++(bJ.cells (a1.drop ((ir:Int).toNat+1)))))) (aH:= []) (some 20) 2 (.fQ 91 1 (tm 15) (tm 17)) (eE bJ (kk:= .i64) (xs:=a1) (j:=ir) (by kernel_rfl) (by kernel_rfl) jn rfl (by intro h;cases h)) (zL 4 6 (zK (zS (zL 2 2 ?_)))))
 refine ak hS (fun eJ mF hS=>zO (v:=(.cS (bJ.enc eJ++(bJ.cells (a2.drop ((ir:Int).toNat+1)))))) (aH:= []) (some 24) 3 (.fQ 91 1 (tm 22) (tm 23)) (eE bJ (kk:= .i64) (xs:=a2) (j:=ir) (by kernel_rfl) (by kernel_rfl) mF rfl (by intro h;cases h)) (zL 3 6 (zK (zS (zL 3 3 ?_)))))
 refine ak hS (fun z12 iz hS=>zO (v:=(dB z12)) (aH:= []) (some 29) 4 (.nQ (tm 26) [(tm 27),(tm 28)]) (AA (f:=35) (cs:= []) (by kernel_rfl) (args:= [(.agg ((dE ag cO.Cells):: [])),(.agg ((dE ag eJ.Cells):: []))]) (l:= [(.agg ((dE ag cO.Cells):: [])),(.agg ((dE ag eJ.Cells):: []))]) (r:=(dB z12)) (by kernel_rfl) (by kernel_rfl) (avF (d-1) (bO hd rfl) cO eJ z12 iz) (by kernel_rfl) (by kernel_rfl) (by kernel_rfl)) (zL 1 5 (zK ?_)))
 refine sR 30 hS (fun hS=>?_) (fun hS=>?_)
 ·refine zT (zS (zL 1 1 (zK ?_)))
  exact aG (cU (bD (au (xU hS hQ))))
 ·refine zF (aJ (cq (aq (aN (zL 2 2 (zE ?_))))))
  exact au (gC hS hQ)
def Si(a1:List bk)(a2:List bk)(fE:Int)(j7:Bool):St:=⟨(up (up (up (up (up (up u0 18 (dB j7)) 17 (dI fE)) 16 (dI (a1.length:Int))) 15 (dE bJ a1)) 2 (.fn 35 [])) 1 (dE bJ a2)),h0⟩
def ox(a1:List bk)(a2:List bk)(fE:Int)(j7:Bool):Option (Int⊕(Unit⊕Bool)):=(bif j7 then (xA a1 a2 fE) else (some (.inr (.inl ()))))
theorem Cx(hd:3≤d)(a1:List bk)(a2:List bk){r:Int⊕(Unit⊕Bool)}(hQ:FQ (bS (vD a1 a2) (A_ a1 a2) r) Q)(fE:Int)(j7:Bool)(hS:ox a1 a2 fE j7=some r)(he:aA [1,2,15,16,17,18] [] [] st=Si a1 a2 fE j7):ZX d Q aoA [] st:=by
 refine aC he ?_
 unfold ox at hS
 refine ay (sR 18 hS (fun hS=>?_) (fun hS=>?_))
 ·exact zT (aJ (aq (Ob hd a1 a2 hQ fE hS (by kernel_rfl))))
 ·exact zF (aC (J:=F_ a1 a2) (by kernel_rfl) (cP (cG (au (iW hS hQ)))))
def xB(a1:List bk)(a2:List bk)(x:Int):Option (Int⊕(Unit⊕Bool)):=(bif (decide (x<(a1.length:Int))) then (ox a1 a2 x true) else (ox a1 a2 x false))
theorem aam(hd:3≤d)(a1:List bk)(a2:List bk){r:Int⊕(Unit⊕Bool)}(hQ:FQ (bS (vD a1 a2) (A_ a1 a2) r) Q){x:Int}(hS:xB a1 a2 x=some r)(he:vD a1 a2 x st):ZX d Q aoB [] st:=by
 refine aC he ?_
 unfold xB at hS
 refine zS ?_
 refine sB 18 1 (.a_ .lss (tm 17) (tm 16)) hS (fun hS=>?_) (fun hS=>?_)
 ·refine zK ?_
  exact Cx hd a1 a2 hQ x true hS (by kernel_rfl)
 ·refine zK ?_
  exact Cx hd a1 a2 hQ x false hS (by kernel_rfl)
def aiT(a1:List bk)(a2:List bk):St:=⟨(up (up (up u0 2 (.fn 35 [])) 1 (dE bJ a2)) 0 (dE bJ a1)),h0⟩
def JI(a1:List bk)(a2:List bk):Option (Bool):=((bR (xB a1 a2) 0).bind fun fu=>(Sum.elim (fun mU=>(some true)) (fun wT=>(some wT)) fu))
theorem aan(hd:3≤d)(a1:List bk)(a2:List bk){r:Bool}(hQ:FQ (arz r) Q)(hS:JI a1 a2=some r)(he:aA [0,1,2] [] [] st=aiT a1 a2):ZX d Q aoC [] st:=by
 refine aC he ?_
 unfold JI at hS
 refine ay (zS (zL 3 3 (zK ?_)))
 refine bF (ak hS (fun fu lO hS=>dD (vD a1 a2) (A_ a1 a2) (fun x st r Q h0 hS hQ=>aam hd a1 a2 hQ hS h0) (x:=0) (z:=fu) (by show aA _ _ _ _=_;kernel_rfl) lO ?_))
 rcases fu with mU | wT
 ·replace hS:=(show _=_ from hS)
  simp only [IJ] at hS
  intro e bX _ hX
  obtain ⟨rfl,rfl⟩:_∧_:=hX
  refine cQ (aq (zS (zL 1 1 (zK ?_))))
  exact aG (au (aM hS hQ (fR (MQ true))))
 ·simp only [IK] at hS
  intro e bX _ hX
  obtain ⟨rfl,hX⟩:_∧_:=hX
  exact cU (bD (au (aM hS hQ (ko (by kernel_rfl) ((congrArg (fun s=>bA s 0 YG.res) hX).trans (MQ wT))))))
def f34(a1:List bk)(a2:List bk):Option (Bool):=(bif (!decide ((a1.length:Int)=(a2.length:Int))) then (some false) else (JI a1 a2))
theorem avG(d:Nat)(hd:3≤d)(a1:List bk)(a2:List bk)(r:Bool)(hS:f34 a1 a2=some r):cg az bE d 34 [(dE bJ a1),(dE bJ a2),(.fn 35 [])] []=some ((dB r),[]):=by
 refine dN hd (fun Q hQ=>?_) aoT
 unfold f34 at hS
 show ZR _ Q aoD [] _
 replace hQ:FQ (arz r) Q:=hQ
 refine zS (zL 1 1 (zK (ay (zS (zL 4 4 ?_)))))
 refine sB 14 5 (.a_ .neq (tm 11) (tm 13)) hS (fun hS=>?_) (fun hS=>?_)
 ·refine zK (zT (zS (zL 1 1 (zK ?_))))
  exact aG (bD (au (aM hS hQ (fR (MQ false)))))
 ·refine zK (zF ?_)
  exact aJ (aq (aan hd a1 a2 hQ hS (by kernel_rfl)))
/- farwriter/farref.SameScreen -/
def arA(ir:Bool):St:=⟨(up u0 4 (dB ir)),h0⟩
theorem iu(ir:Bool):bA (arA ir) 0 c16.res=some ((dB ir),[]):=by
 kernel_rfl
def ay6(r:Bool)(e:PX)(st:St):Prop:=bh c16 0 ((dB r),[]) e st
def f16(a1:ah)(a2:ah):Option (Bool):=((f33 a1.aT a2.aT).bind fun z4=>(bif z4 then ((f33 a1.bT a2.bT).bind fun z5=>(bif z5 then (bif (decide (a1.Row=a2.Row)) then (bif (decide (a1.dS=a2.dS)) then (bif (decide (a1.eL=a2.eL)) then (bif (decide (a1.jo=a2.jo)) then (bif (decide (a1.dy=a2.dy)) then (bif (decide (a1.bM.Flags=a2.bM.Flags)&&(decide (a1.bM.cz=a2.bM.cz)&&(decide (a1.bM.b9=a2.bM.b9)&&true))) then (bif (decide (a1.gD=a2.gD)) then (bif (CR 4 a1.gU.Bits a2.gU.Bits&&true) then (bif (decide (a1.bY.1=a2.bY.1)&&(decide (a1.bY.2=a2.bY.2)&&true)) then (bif (decide (a1.dF=a2.dF)) then (bif (decide (a1.aR.Row=a2.aR.Row)&&(decide (a1.aR.dS=a2.aR.dS)&&(decide (a1.aR.bM.Flags=a2.aR.bM.Flags)&&(decide (a1.aR.bM.cz=a2.aR.bM.cz)&&(decide (a1.aR.bM.b9=a2.aR.bM.b9)&&(decide (a1.aR.Origin=a2.aR.Origin)&&(decide (a1.aR.bY.1=a2.aR.bY.1)&&(decide (a1.aR.bY.2=a2.aR.bY.2)&&(decide (a1.aR.dF=a2.aR.dF)&&true))))))))) then (bif (decide (a1.iF=a2.iF)) then ((f34 a1.cD a2.cD).bind fun z6=>(some z6)) else (some false)) else (some false)) else (some false)) else (some false)) else (some false)) else (some false)) else (some false)) else (some false)) else (some false)) else (some false)) else (some false)) else (some false)) else (some false))) else (some false)))
theorem avH(d:Nat)(hd:4≤d)(a1:ah)(a2:ah)(r:Bool)(hS:f16 a1 a2=some r):cg az bE d 16 [(.agg (av a1)),(.agg (av a2))] []=some ((dB r),[]):=by
 refine dN hd (fun Q hQ=>?_) aoI
 unfold f16 at hS
 show ZR _ Q aoE [] _
 replace hQ:FQ (ay6 r) Q:=hQ
 refine zS (zL 3 3 (zK (zS (zL 4 4 ?_))))
 refine ak hS (fun z4 jR hS=>zO (some 9) 5 (.call 33 [(tm 6),(tm 8)]) (aW (aek (d-1) (bO hd rfl) a1.aT a2.aT z4 jR)) (zL 1 6 (sL 10 hS (fun hS=>?_) (fun hS=>?_))))
 ·refine zL 4 10 (ak hS (fun z5 tV hS=>zG (some 15) 11 10 true (.call 33 [(tm 12),(tm 14)]) (aW (aek (d-1) (bO hd rfl) a1.bT a2.bT z5 tV)) (zL 2 13 (sL 17 hS (fun hS=>?_) (fun hS=>?_)))))
  ·refine zL 4 17 (sH 22 18 17 true (.a_ .eql (tm 19) (tm 21)) hS (fun hS=>?_) (fun hS=>?_))
   ·refine zL 6 24 (sH 29 25 24 true (.a_ .eql (tm 26) (tm 28)) hS (fun hS=>?_) (fun hS=>?_))
    ·refine zL 6 31 (sH 36 32 31 true (.eqB .false (tm 33) (tm 35)) hS (fun hS=>?_) (fun hS=>?_))
     ·refine zL 6 38 (sH 43 39 38 true (.a_ .eql (tm 40) (tm 42)) hS (fun hS=>?_) (fun hS=>?_))
      ·refine zL 6 45 (sH 50 46 45 true (.a_ .eql (tm 47) (tm 49)) hS (fun hS=>?_) (fun hS=>?_))
       ·refine zL 6 52 (sH 57 53 52 true (.CD .false [(3,.int)] (tm 54) (tm 56)) hS (fun hS=>?_) (fun hS=>?_))
        ·refine zL 6 59 (sH 64 60 59 true (.a_ .eql (tm 61) (tm 63)) hS (fun hS=>?_) (fun hS=>?_))
         ·refine zL 6 66 (DW (d:=71) (op:=(.CD .false [(4,.int)] (tm 68) (tm 70))) (g:=(some (66,true))) (j:=67) (CR 4 a1.gU.Bits a2.gU.Bits&&true) rfl (by kernel_rfl) (by kernel_rfl) (as7 (va:=(((dR .u64).row 4 a1.gU.Bits)++ [])) (vb:=(((dR .u64).row 4 a2.gU.Bits)++ [])) (ks:=(List.replicate 4 .int++ [])) (by kernel_rfl) (by kernel_rfl) (by kernel_rfl) (akl eq_nil)) (fun hc=>?_) (fun hc=>?_))
          ·replace hS:=kX hc hS
           refine zL 6 73 (sH 78 74 73 true (.CD .false [(2,.int)] (tm 75) (tm 77)) hS (fun hS=>?_) (fun hS=>?_))
           ·refine zL 6 80 (sH 85 81 80 true (.a_ .eql (tm 82) (tm 84)) hS (fun hS=>?_) (fun hS=>?_))
            ·refine zL 6 87 (sH 92 88 87 true (.CD .false [(5,.int),(1,.bool),(3,.int)] (tm 89) (tm 91)) hS (fun hS=>?_) (fun hS=>?_))
             ·refine zL 6 94 (sH 99 95 94 true (.lI .eql (tm 96) (tm 98)) hS (fun hS=>?_) (fun hS=>?_))
              ·refine zL 6 101 (ak hS (fun z6 zw hS=>zG (some 106) 102 101 true (.call 34 [(tm 103),(tm 105),(.func 35)]) (aW (avG (d-1) (bO hd rfl) a1.cD a2.cD z6 zw)) (zL 2 104 (zK ?_))))
               exact aG (au (aM hS hQ (fR (iu z6))))
              ·refine zL 9 104 (zK ?_)
               exact aG (au (aM hS hQ (fR (iu false))))
             ·refine zL 16 104 (zK ?_)
              exact aG (au (aM hS hQ (fR (iu false))))
            ·refine zL 23 104 (zK ?_)
             exact aG (au (aM hS hQ (fR (iu false))))
           ·refine zL 30 104 (zK ?_)
            exact aG (au (aM hS hQ (fR (iu false))))
          ·replace hS:=kY hc hS
           refine zL 37 104 (zK ?_)
           exact aG (au (aM hS hQ (fR (iu false))))
         ·refine zL 44 104 (zK ?_)
          exact aG (au (aM hS hQ (fR (iu false))))
        ·refine zL 51 104 (zK ?_)
         exact aG (au (aM hS hQ (fR (iu false))))
       ·refine zL 58 104 (zK ?_)
        exact aG (au (aM hS hQ (fR (iu false))))
      ·refine zL 65 104 (zK ?_)
       exact aG (au (aM hS hQ (fR (iu false))))
     ·refine zL 72 104 (zK ?_)
      exact aG (au (aM hS hQ (fR (iu false))))
    ·refine zL 79 104 (zK ?_)
     exact aG (au (aM hS hQ (fR (iu false))))
   ·refine zL 86 104 (zK ?_)
    exact aG (au (aM hS hQ (fR (iu false))))
  ·refine zL 91 104 (zK ?_)
   exact aG (au (aM hS hQ (fR (iu false))))
 ·refine zL 98 104 (zK ?_)
  exact aG (au (aM hS hQ (fR (iu false))))
end
end Go.Proofs.YtobkkblijfhpoaaGreatDoor.Pm
