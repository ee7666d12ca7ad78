/- Typed functions, and that the codes are these. Printed by dec.py. -/
import Derived.Test.YtimbfadnabfabaaGreatDoorDMoE
namespace Go.Proofs.YtimbfadnabfabaaGreatDoor.Pm
noncomputable section
set_option maxRecDepth 1000000
set_option maxHeartbeats 20000000
set_option linter.unusedVariables false
set_option linter.unusedSimpArgs false
variable {d : Nat} {Q : PQ} {st : St}
/- farwriter/screen.Check -/
def qE(r:Int)(e:PX)(st:St):Prop:=aU c22 0 ((dI r),[]) e st
def ahg(a1:aA)(wY:Bool):St:=⟨(up (up u0 5 (dB wY)) 1 (pt 16)),(up h0 16 ⟨0,some (.box (bK a1))⟩)⟩
def AK(a1:aA)(wY:Bool):Option (Int):=(bif wY then (bif (decide ((a1.gz.length:Int)≤256)) then ((f61 a1.bn).bind fun qF=>(bif (!qF) then (some 4) else (some 0))) else (some 4)) else (some 4))
theorem CV(hd:6≤d){a1:aA}{r:Int}(hQ:FQ (qE r) Q){wY:Bool}(hS:AK a1 wY=some r): ∀st,au [1,5] [(16,.id 16)] [] st=ahg a1 wY→ZX d Q alF [] st:=by
 intro st he
 refine av he ?_
 unfold AK at hS
 refine zS (zL 2 (sL 144 hS (fun hS=>?_) (fun hS=>?_)))
 ·refine zL 3 (sB 148 hS (fun hS=>?_) (fun hS=>?_))
  ·refine zL 4 (aq hS (fun qF Oy hS=>zG (some 153) 150 true (c1 61 152) (b_ (avQ (aV hd rfl) Oy)) (zL 2 (zK (aC (zS (zL 2 (zK (sR 156 hS (fun hS=>?_) (fun hS=>?_))))))))))
   ·exact nR hS hQ
   ·exact nR hS hQ
  ·exact nL hS hQ
 ·exact nL hS hQ
def ahh(a1:aA)(kC:Bool):St:=⟨(up (up u0 5 (dB kC)) 1 (pt 16)),(up h0 16 ⟨0,some (.box (bK a1))⟩)⟩
def AL(a1:aA)(kC:Bool):Option (Int):=(bif kC then ((f58 a1.aI.Row 0 59).bind fun TR=>(bif TR then ((f58 a1.aI.cP 0 159).bind fun z44=>(AK a1 z44)) else (AK a1 false))) else (AK a1 false))
theorem CW(hd:6≤d){a1:aA}{r:Int}(hQ:FQ (qE r) Q){kC:Bool}(hS:AL a1 kC=some r): ∀st,au [1,5] [(16,.id 16)] [] st=ahh a1 kC→ZX d Q alG [] st:=by
 intro st he
 refine av he ?_
 unfold AL at hS
 refine zS (zL 2 (sL 131 hS (fun hS=>?_) (fun hS=>?_)))
 ·refine zL 3 (aq hS (fun TR Oz hS=>zG (some 135) 131 true (.call 58 [(tm 134),(ki 0),(ki 59)]) (b_ (q8 (aV hd rfl) Oz)) (zL 2 (sL 137 hS (fun hS=>?_) (fun hS=>?_)))))
  ·exact zL 3 (aq hS (fun z44 Kp hS=>zG (some 141) 137 true (.call 58 [(tm 140),(ki 0),(ki 159)]) (b_ (q8 (aV hd rfl) Kp)) (zL 2 (zK (CV hd hQ hS _ (by kernel_rfl))))))
  ·exact zL 6 (zK (CV hd hQ hS _ (by kernel_rfl)))
 ·exact jL (CV hd hQ hS)
def ahi(a1:aA)(iX:Bool):St:=⟨(up (up u0 5 (dB iX)) 1 (pt 16)),(up h0 16 ⟨0,some (.box (bK a1))⟩)⟩
def tR(a1:aA)(iX:Bool):Option (Int):=(bif iX then ((f58 a1.cC 0 1).bind fun QK=>(bif QK then ((f58 a1.aI.cC 0 1).bind fun z46=>(AL a1 z46)) else (AL a1 false))) else (AL a1 false))
theorem sJ(hd:6≤d){a1:aA}{r:Int}(hQ:FQ (qE r) Q){iX:Bool}(hS:tR a1 iX=some r): ∀st,au [1,5] [(16,.id 16)] [] st=ahi a1 iX→ZX d Q FU [] st:=by
 intro st he
 refine av he ?_
 unfold tR at hS
 refine zS (zL 2 (sL 119 hS (fun hS=>?_) (fun hS=>?_)))
 ·refine zL 2 (aq hS (fun QK TS hS=>zG (some 122) 119 true (.call 58 [(tm 121),(ki 0),(ki 1)]) (b_ (q8 (aV hd rfl) TS)) (zL 2 (sL 124 hS (fun hS=>?_) (fun hS=>?_)))))
  ·exact zL 3 (aq hS (fun z46 OA hS=>zG (some 128) 124 true (.call 58 [(tm 127),(ki 0),(ki 1)]) (b_ (q8 (aV hd rfl) OA)) (zL 2 (zK (CW hd hQ hS _ (by kernel_rfl))))))
  ·exact zL 6 (zK (CW hd hQ hS _ (by kernel_rfl)))
 ·exact jL (CW hd hQ hS)
def ahj(a1:aA)(DX:Bool):St:=⟨(up (up (up u0 98 (dI 1)) 5 (dB DX)) 1 (pt 16)),(up h0 16 ⟨0,some (.box (bK a1))⟩)⟩
def Iy(a1:aA)(DX:Bool):Option (Int):=(bif DX then ((f60 a1.bp.2).bind fun z51=>(bif z51 then ((f60 a1.aI.bp.2).bind fun Mm=>(tR a1 Mm)) else (tR a1 false))) else (tR a1 false))
theorem XH(hd:6≤d){a1:aA}{r:Int}(hQ:FQ (qE r) Q){DX:Bool}(hS:Iy a1 DX=some r): ∀st,au [1,5,98] [(16,.id 16)] [] st=ahj a1 DX→ZX d Q J8 [.seq J9,.blk 0,.seq FU] st:=by
 intro st he
 refine av he ?_
 unfold Iy at hS
 refine aC (bw (zS (zL 2 (zK (a_ (zL 2 (sL 102 hS (fun hS=>?_) (fun hS=>?_))))))))
 ·refine zL 4 (aq hS (fun z51 TD hS=>zG (some 107) 102 true (c1 60 106) (b_ (Ee (aV hd rfl) TD)) (zL 2 (sL 109 hS (fun hS=>?_) (fun hS=>?_)))))
  ·exact zL 5 (aq hS (fun Mm TE hS=>zG (some 115) 109 true (c1 60 114) (b_ (Ee (aV hd rfl) TE)) (jL (sJ hd hQ hS))))
  ·exact jL (sJ hd hQ hS)
 ·exact jL (sJ hd hQ hS)
def ahk(a1:aA):St:=⟨(up (up (up u0 98 (dI 1)) 5 (dB false)) 1 (pt 16)),(up h0 16 ⟨0,some (.box (bK a1))⟩)⟩
def QL(a1:aA):Option (Int):=(tR a1 false)
theorem XI(hd:6≤d){a1:aA}{r:Int}(hQ:FQ (qE r) Q)(hS:QL a1=some r): ∀st,au [1,5,98] [(16,.id 16)] [] st=ahk a1→ZX d Q J8 [.seq J9,.blk 0,.seq FU] st:=by
 intro st he
 refine av he ?_
 unfold QL at hS
 exact jR (sJ hd hQ hS)
def XJ(a1:aA):St:=⟨(up (up (up u0 98 (dI 1)) 5 (dB false)) 1 (pt 16)),(up h0 16 ⟨0,some (.box (bK a1))⟩)⟩
def Ky(a1:aA):Option (Int):=(tR a1 false)
theorem TT(hd:6≤d){a1:aA}{r:Int}(hQ:FQ (qE r) Q)(hS:Ky a1=some r): ∀st,au [1,5,98] [(16,.id 16)] [] st=XJ a1→ZX d Q J8 [.seq J9,.blk 0,.seq FU] st:=by
 intro st he
 refine av he ?_
 unfold Ky at hS
 exact jR (sJ hd hQ hS)
def ahl(a1:aA)(vh:Bool):St:=⟨(up (up (up u0 98 (dI 0)) 5 (dB vh)) 1 (pt 16)),(up h0 16 ⟨0,some (.box (bK a1))⟩)⟩
def Iz(a1:aA)(vh:Bool):Option (Int):=(bif vh then ((f60 a1.bp.1).bind fun Eg=>(bif Eg then ((f60 a1.aI.bp.1).bind fun y7=>(Iy a1 y7)) else (QL a1))) else (Ky a1))
theorem XK(hd:6≤d){a1:aA}{r:Int}(hQ:FQ (qE r) Q){vh:Bool}(hS:Iz a1 vh=some r): ∀st,au [1,5,98] [(16,.id 16)] [] st=ahl a1 vh→ZX d Q J8 [.seq J9,.blk 0,.seq FU] st:=by
 intro st he
 refine av he ?_
 unfold Iz at hS
 refine aC (bw (zS (zL 2 (zK (a_ (zL 2 (sL 102 hS (fun hS=>?_) (fun hS=>?_))))))))
 ·refine zL 4 (aq hS (fun Eg Kz hS=>zG (some 107) 102 true (c1 60 106) (b_ (Ee (aV hd rfl) Kz)) (zL 2 (sL 109 hS (fun hS=>?_) (fun hS=>?_)))))
  ·exact zL 5 (aq hS (fun y7 GN hS=>zG (some 115) 109 true (c1 60 114) (b_ (Ee (aV hd rfl) GN)) (jL (XH hd hQ hS))))
  ·exact jL (XI hd hQ hS)
 ·exact jL (TT hd hQ hS)
def ahm(a1:aA)(fe:Bool):St:=⟨(up (up u0 5 (dB fe)) 1 (pt 16)),(up h0 16 ⟨0,some (.box (bK a1))⟩)⟩
def wZ(a1:aA)(fe:Bool):Option (Int):=(Iz a1 fe)
theorem w8(hd:6≤d){a1:aA}{r:Int}(hQ:FQ (qE r) Q){fe:Bool}(hS:wZ a1 fe=some r): ∀st,au [1,5] [(16,.id 16)] [] st=ahm a1 fe→ZX d Q alH [] st:=by
 intro st he
 refine av he ?_
 unfold wZ at hS
 exact jR (XK hd hQ hS)
def ahn(a1:aA)(fS:Bool):St:=⟨(up (up u0 5 (dB fS)) 1 (pt 16)),(up h0 16 ⟨0,some (.box (bK a1))⟩)⟩
def w9(a1:aA)(fS:Bool):Option (Int):=(bif fS then ((f59 a1.bP).bind fun z53=>(bif (decide (z53=0)) then ((f59 a1.aI.bP).bind fun FY=>(bif (decide (FY=0)) then ((f58 a1.eE 0 2047).bind fun FZ=>(wZ a1 FZ)) else (wZ a1 false))) else (wZ a1 false))) else (wZ a1 false))
theorem w_(hd:6≤d){a1:aA}{r:Int}(hQ:FQ (qE r) Q){fS:Bool}(hS:w9 a1 fS=some r): ∀st,au [1,5] [(16,.id 16)] [] st=ahn a1 fS→ZX d Q alI [] st:=by
 intro st he
 refine av he ?_
 unfold w9 at hS
 refine zS (zL 2 (sL 80 hS (fun hS=>?_) (fun hS=>?_)))
 ·refine zL 2 (aq hS (fun z53 TF hS=>zG (some 83) 80 true (c1 59 82) (b_ (Ir (aV hd rfl) TF)) (sB 84 hS (fun hS=>?_) (fun hS=>?_))))
  ·refine zL 5 (aq hS (fun FY Kr hS=>zG (some 90) 86 true (c1 59 89) (b_ (Ir (aV hd rfl) Kr)) (sB 91 hS (fun hS=>?_) (fun hS=>?_))))
   ·exact zL 4 (aq hS (fun FZ adU hS=>zG (some 96) 93 true (.call 58 [(tm 95),(ki 0),(ki 2047)]) (b_ (q8 (aV hd rfl) adU)) (zL 2 (zK (w8 hd hQ hS _ (by kernel_rfl))))))
   ·exact zL 7 (zK (w8 hd hQ hS _ (by kernel_rfl)))
  ·exact zL 14 (zK (w8 hd hQ hS _ (by kernel_rfl)))
 ·exact jL (w8 hd hQ hS)
def aho(a1:aA)(qG:Bool):St:=⟨(up (up (up u0 5 (dB qG)) 3 (pt 32)) 1 (pt 16)),(up (up h0 32 ⟨0,some (.box ((dI a1.aG.bR)::((dI a1.aG.bW)::((iD a1):: []))))⟩) 16 ⟨0,some (.box (bK a1))⟩)⟩
def lg(a1:aA)(qG:Bool):Option (Int):=(bif qG then ((f58 a1.ji 0 (IntKind.i64.wrap (a1.cT-1))).bind fun z56=>(bif z56 then (bif (decide (a1.cT≤a1.aG.bW)) then (w9 a1 true) else (w9 a1 false)) else (w9 a1 false))) else (w9 a1 false))
theorem oY(hd:6≤d){a1:aA}{r:Int}(hQ:FQ (qE r) Q){qG:Bool}(hS:lg a1 qG=some r): ∀st,au [1,3,5] [(16,.id 16),(32,.id 32)] [] st=aho a1 qG→ZX d Q alJ [] st:=by
 intro st he
 refine av he ?_
 unfold lg at hS
 refine zS (zL 2 (sL 64 hS (fun hS=>?_) (fun hS=>?_)))
 ·refine zL 5 (aq hS (fun z56 aDj hS=>zG (some 70) 64 true (.call 58 [(tm 66),(ki 0),(tm 69)]) (b_ (q8 (aV hd rfl) aDj)) (zL 2 (sL 72 hS (fun hS=>?_) (fun hS=>?_)))))
  ·refine zL 4 (sB 77 hS (fun hS=>?_) (fun hS=>?_))
   ·exact zL 2 (zK (w_ hd hQ hS _ (by kernel_rfl)))
   ·exact zL 2 (zK (w_ hd hQ hS _ (by kernel_rfl)))
  ·exact zL 7 (zK (w_ hd hQ hS _ (by kernel_rfl)))
 ·exact jL (w_ hd hQ hS)
def ahp(a1:aA)(en:Bool):St:=⟨(up (up (up u0 5 (dB en)) 3 (pt 32)) 1 (pt 16)),(up (up h0 32 ⟨0,some (.box ((dI a1.aG.bR)::((dI a1.aG.bW)::((iD a1):: []))))⟩) 16 ⟨0,some (.box (bK a1))⟩)⟩
def tS(a1:aA)(en:Bool):Option (Int):=(bif en then ((f58 a1.Row 0 (IntKind.i64.wrap (a1.aG.bW-1))).bind fun Xv=>(bif Xv then ((f58 a1.cP 0 (IntKind.i64.wrap (a1.aG.bR-1))).bind fun z58=>(bif z58 then (bif (!a1.eK) then (lg a1 true) else (bif (decide (a1.cP=(IntKind.i64.wrap (a1.aG.bR-1)))) then (lg a1 true) else (lg a1 false))) else (lg a1 false))) else (lg a1 false))) else (lg a1 false))
theorem sK(hd:6≤d){a1:aA}{r:Int}(hQ:FQ (qE r) Q){en:Bool}(hS:tS a1 en=some r): ∀st,au [1,3,5] [(16,.id 16),(32,.id 32)] [] st=ahp a1 en→ZX d Q alK [] st:=by
 intro st he
 refine av he ?_
 unfold tS at hS
 refine zS (zL 2 (sL 34 hS (fun hS=>?_) (fun hS=>?_)))
 ·refine zL 5 (aq hS (fun Xv aDk hS=>zG (some 40) 34 true (.call 58 [(tm 36),(ki 0),(tm 39)]) (b_ (q8 (aV hd rfl) aDk)) (zL 2 (sL 42 hS (fun hS=>?_) (fun hS=>?_)))))
  ·refine zL 5 (aq hS (fun z58 ao8 hS=>zG (some 48) 42 true (.call 58 [(tm 44),(ki 0),(tm 47)]) (b_ (q8 (aV hd rfl) ao8)) (zL 2 (sL 50 hS (fun hS=>?_) (fun hS=>?_)))))
   ·refine zL 4 (sL 54 hS (fun hS=>?_) (fun hS=>?_))
    ·exact zL 9 (zK (oY hd hQ hS _ (by kernel_rfl)))
    ·refine zL 5 (sB 60 hS (fun hS=>?_) (fun hS=>?_))
     ·exact zL 3 (zK (oY hd hQ hS _ (by kernel_rfl)))
     ·exact zL 3 (zK (oY hd hQ hS _ (by kernel_rfl)))
   ·exact zL 13 (zK (oY hd hQ hS _ (by kernel_rfl)))
  ·exact zL 21 (zK (oY hd hQ hS _ (by kernel_rfl)))
 ·exact jL (oY hd hQ hS)
def f22(a1:aA):Option (Int):=((f57 a1.aG).bind fun z59=>(bif (decide (z59=0)) then ((f57 a1.aT).bind fun vk=>(bif (decide (vk=0)) then (bif (decide (a1.aG.bR=a1.aT.bR)) then (bif (decide (a1.aG.bW=a1.aT.bW)) then (tS a1 true) else (tS a1 false)) else (tS a1 false)) else (tS a1 false))) else (tS a1 false)))
theorem ad3{d:Nat}(hd:6≤d){a1:aA}{r:Int}(hS:f22 a1=some r):bZ ay aX d 22 [(.agg (bK a1))] []=some ((dI r),[]):=by
 refine cI hd (fun Q hQ=>?_) aof
 unfold f22 at hS
 show ZR _ Q alL [] _
 replace hQ:FQ (qE r) Q:=hQ
 refine zS (zL 2 (zK (aC (cG (cy 8 (fG (cq (zS (zL 1 (aq hS (fun z59 TU hS=>zC 12 (QH (aV hd rfl) TU) (sB 13 hS (fun hS=>?_) (fun hS=>?_)))))))))))))
 ·refine zL 2 (aq hS (fun vk ayy hS=>zG (some 16) 14 true (c1 57 15) (b_ (QH (aV hd rfl) ayy)) (sB 17 hS (fun hS=>?_) (fun hS=>?_))))
  ·refine zL 6 (sB 24 hS (fun hS=>?_) (fun hS=>?_))
   ·refine zL 6 (sB 31 hS (fun hS=>?_) (fun hS=>?_))
    ·exact zL 2 (zK (sK hd hQ hS _ (by kernel_rfl)))
    ·exact zL 2 (zK (sK hd hQ hS _ (by kernel_rfl)))
   ·exact zL 9 (zK (sK hd hQ hS _ (by kernel_rfl)))
  ·exact zL 16 (zK (sK hd hQ hS _ (by kernel_rfl)))
 ·exact jL (sK hd hQ hS)
/- farwriter/qneg.known -/
def aAz(r:Bool)(e:PX)(st:St):Prop:=aU c62 0 ((dB r),[]) e st
def f62(a1:Int):Option (Bool):=(bif (decide (0≤a1)) then (bif (decide (a1≤5)) then (some true) else (some false)) else (some false))
theorem ad4{d:Nat}(hd:1≤d){a1:Int}{r:Bool}(hS:f62 a1=some r):bZ ay aX d 62 [(dI a1)] []=some ((dB r),[]):=by
 refine cI hd (fun Q hQ=>?_) aoK
 unfold f62 at hS
 show ZR _ Q alM [] _
 replace hQ:FQ (aAz r) Q:=hQ
 refine zS (zL 1 (zK (zS (zL 1 (sB 4 hS (fun hS=>?_) (fun hS=>?_))))))
 ·refine zL 2 (sB 7 hS (fun hS=>?_) (fun hS=>?_))
  ·exact nL hS hQ
  ·exact nL hS hQ
 ·exact nL hS hQ
/- farwriter/qneg.Check -/
def KA(fH:Int):St:=⟨(up u0 2 (dI fH)),h0⟩
theorem TV{fH:Int}:cN (KA fH) 0 Qa.res=some ((dI fH),[]):=by
 kernel_rfl
def XL(r:Int)(e:PX)(st:St):Prop:=aU Qa 0 ((dI r),[]) e st
def ahq(a1:eL)(x:Int):St:=⟨(up (up (up (up u0 16 (dI x)) 15 (.agg ((cH.row 256 a1.Us)++ []))) 12 (dI 0)) 11 (BG a1)),h0⟩
def vn(a1:eL)(x:Int)(st:St):Prop:=au [11,12,15,16] [] [] st=ahq a1 x
def Eh(a1:eL):St:=⟨(up (up u0 12 (dI 0)) 11 (BG a1)),h0⟩
def AO(a1:eL)(z:Unit⊕Int)(e:PX)(st:St):Prop:=(match z with | .inl z=>e= .exit 2∧st=Eh a1 | .inr z=>e= .ret∧dV Qa.fin st=KA z)
def QM(a1:eL)(CX:Int):St:=⟨(up (up (up (up u0 16 (dI CX)) 15 (.agg ((cH.row 256 a1.Us)++ []))) 12 (dI 0)) 11 (BG a1)),h0⟩
def xb(a1:eL)(CX:Int):Option (Int⊕(Unit⊕Int)):=((jO CX 256).bind fun m28=>((f62 ((a1.Us m28).toNat:Int)).bind fun oZ=>(bif (!oZ) then (some (.inr (.inr 4))) else (some (.inl (IntKind.i64.wrap (CX+1)))))))
theorem Mv(hd:2≤d){a1:eL}{r:Int⊕(Unit⊕Int)}(hQ:FQ (bG (vn a1) (AO a1) r) Q){CX:Int}(hS:xb a1 CX=some r): ∀st,au [11,12,15,16] [] [] st=QM a1 CX→ZX d Q WU [] st:=by
 intro st he
 refine av he ?_
 unfold xb at hS
 refine aC (bw (zS (aq hS (fun m28 aDm hS=>zO (v:=(.d (.int .u8 ((a1.Us m28).toNat:Int)))) (aD:= []) (some 18) (.HE .false 256 1 (tm 15) (tm 16)) (Av cH a1.Us (kk:= .i64) (j:=CX) (by kernel_rfl) (by kernel_rfl) aDm rfl (by kernel_rfl) (by kernel_rfl)) (zL 1 (zK (zS (zL 1 (zO (v:=(dI ((a1.Us m28).toNat:Int))) (aD:= []) (some 20) (.kF .i64 (tm 19)) (gJ (kk:= .u8) (a:=((a1.Us m28).toNat:Int)) (by kernel_rfl) (qW _)) (aq hS (fun oZ KB hS=>zC 21 (ad4 (aV hd rfl) KB) (zL 1 (zK (sR 22 hS (fun hS=>?_) (fun hS=>?_)))))))))))))))
 ·exact zT (zS (zL 1 (zK (cL (cj (bQ (bg (mG hS hQ))))))))
 ·exact lR hS hQ
def QN(a1:eL)(lT:Int)(Br:Bool):St:=⟨(up (up (up (up (up u0 17 (dB Br)) 16 (dI lT)) 15 (.agg ((cH.row 256 a1.Us)++ []))) 12 (dI 0)) 11 (BG a1)),h0⟩
def sM(a1:eL)(lT:Int)(Br:Bool):Option (Int⊕(Unit⊕Int)):=(bif Br then (xb a1 lT) else (some (.inr (.inl ()))))
theorem BV(hd:2≤d){a1:eL}{r:Int⊕(Unit⊕Int)}(hQ:FQ (bG (vn a1) (AO a1) r) Q){lT:Int}{Br:Bool}(hS:sM a1 lT Br=some r): ∀st,au [11,12,15,16,17] [] [] st=QN a1 lT Br→ZX d Q WV [] st:=by
 intro st he
 refine av he ?_
 unfold sM at hS
 refine aC (sR 17 hS (fun hS=>?_) (fun hS=>?_))
 ·exact jR (Mv hd hQ hS)
 ·exact zF (av (J:=Eh a1) (by kernel_rfl) (cX (cV (bg (jw hS hQ)))))
def xd(a1:eL)(x:Int):Option (Int⊕(Unit⊕Int)):=(bif (decide (x<256)) then (sM a1 x true) else (sM a1 x false))
theorem XM(hd:2≤d){a1:eL}{r:Int⊕(Unit⊕Int)}(hQ:FQ (bG (vn a1) (AO a1) r) Q){x:Int}(hS:xd a1 x=some r)(he:vn a1 x st):ZX d Q WW [] st:=by
 refine av he ?_
 unfold xd at hS
 refine zS (sB 17 hS (fun hS=>?_) (fun hS=>?_))
 ·exact zK (BV hd hQ hS _ (by kernel_rfl))
 ·exact jL (BV hd hQ hS)
def ahr(a1:eL)(x:Int):St:=⟨(up (up (up (up u0 16 (dI x)) 15 (.agg ((cH.row 256 a1.fX)++ []))) 12 (dI 1)) 11 (BG a1)),h0⟩
def vo(a1:eL)(x:Int)(st:St):Prop:=au [11,12,15,16] [] [] st=ahr a1 x
def Ei(a1:eL):St:=⟨(up (up u0 12 (dI 1)) 11 (BG a1)),h0⟩
def AP(a1:eL)(z:Unit⊕Int)(e:PX)(st:St):Prop:=(match z with | .inl z=>e= .exit 2∧st=Ei a1 | .inr z=>e= .ret∧dV Qa.fin st=KA z)
def QO(a1:eL)(TW:Int):St:=⟨(up (up (up (up u0 16 (dI TW)) 15 (.agg ((cH.row 256 a1.fX)++ []))) 12 (dI 1)) 11 (BG a1)),h0⟩
def xe(a1:eL)(TW:Int):Option (Int⊕(Unit⊕Int)):=((jO TW 256).bind fun m33=>((f62 ((a1.fX m33).toNat:Int)).bind fun QS=>(bif (!QS) then (some (.inr (.inr 4))) else (some (.inl (IntKind.i64.wrap (TW+1)))))))
theorem Mw(hd:2≤d){a1:eL}{r:Int⊕(Unit⊕Int)}(hQ:FQ (bG (vo a1) (AP a1) r) Q){TW:Int}(hS:xe a1 TW=some r): ∀st,au [11,12,15,16] [] [] st=QO a1 TW→ZX d Q WU [] st:=by
 intro st he
 refine av he ?_
 unfold xe at hS
 refine aC (bw (zS (aq hS (fun m33 aDn hS=>zO (v:=(.d (.int .u8 ((a1.fX m33).toNat:Int)))) (aD:= []) (some 18) (.HE .false 256 1 (tm 15) (tm 16)) (Av cH a1.fX (kk:= .i64) (j:=TW) (by kernel_rfl) (by kernel_rfl) aDn rfl (by kernel_rfl) (by kernel_rfl)) (zL 1 (zK (zS (zL 1 (zO (v:=(dI ((a1.fX m33).toNat:Int))) (aD:= []) (some 20) (.kF .i64 (tm 19)) (gJ (kk:= .u8) (a:=((a1.fX m33).toNat:Int)) (by kernel_rfl) (qW _)) (aq hS (fun QS ayz hS=>zC 21 (ad4 (aV hd rfl) ayz) (zL 1 (zK (sR 22 hS (fun hS=>?_) (fun hS=>?_)))))))))))))))
 ·exact zT (zS (zL 1 (zK (cL (cj (bQ (bg (mG hS hQ))))))))
 ·exact lR hS hQ
def QT(a1:eL)(oX:Int)(nu:Bool):St:=⟨(up (up (up (up (up u0 17 (dB nu)) 16 (dI oX)) 15 (.agg ((cH.row 256 a1.fX)++ []))) 12 (dI 1)) 11 (BG a1)),h0⟩
def sN(a1:eL)(oX:Int)(nu:Bool):Option (Int⊕(Unit⊕Int)):=(bif nu then (xe a1 oX) else (some (.inr (.inl ()))))
theorem BW(hd:2≤d){a1:eL}{r:Int⊕(Unit⊕Int)}(hQ:FQ (bG (vo a1) (AP a1) r) Q){oX:Int}{nu:Bool}(hS:sN a1 oX nu=some r): ∀st,au [11,12,15,16,17] [] [] st=QT a1 oX nu→ZX d Q WV [] st:=by
 intro st he
 refine av he ?_
 unfold sN at hS
 refine aC (sR 17 hS (fun hS=>?_) (fun hS=>?_))
 ·exact jR (Mw hd hQ hS)
 ·exact zF (av (J:=Ei a1) (by kernel_rfl) (cX (cV (bg (jw hS hQ)))))
def xg(a1:eL)(x:Int):Option (Int⊕(Unit⊕Int)):=(bif (decide (x<256)) then (sN a1 x true) else (sN a1 x false))
theorem XN(hd:2≤d){a1:eL}{r:Int⊕(Unit⊕Int)}(hQ:FQ (bG (vo a1) (AP a1) r) Q){x:Int}(hS:xg a1 x=some r)(he:vo a1 x st):ZX d Q WW [] st:=by
 refine av he ?_
 unfold xg at hS
 refine zS (sB 17 hS (fun hS=>?_) (fun hS=>?_))
 ·exact zK (BW hd hQ hS _ (by kernel_rfl))
 ·exact jL (BW hd hQ hS)
def ahs(a1:eL):St:=⟨(up (up u0 12 (dI 1)) 11 (BG a1)),h0⟩
def IA(a1:eL):Option (Int):=((b9 (xg a1) 0).bind fun KC=>(Sum.elim (fun z36=>(some 0)) (fun z37=>(some z37)) KC))
theorem XO(hd:2≤d){a1:eL}{r:Int}(hQ:FQ (XL r) Q)(hS:IA a1=some r): ∀st,au [11,12] [] [] st=ahs a1→ZX d Q WX [.seq WY,.blk 0,.seq WZ] st:=by
 intro st he
 refine av he ?_
 unfold IA at hS
 refine aC (bw (zS (zL 3 (zK (zS (zL 2 (zK (bw (aq hS (fun KC ayA hS=>dF (vo a1) (AP a1) (fun x st r Q h0 hS hQ=>XN hd hQ hS h0) (x:=0) (z:=KC) (by show au _ _ _ _=_;kernel_rfl) ayA ?_))))))))))
 rcases KC with z36 | z37
 ·replace hS:=(show _=_ from hS)
  simp only [tD] at hS
  intro e bl _ hX
  obtain ⟨rfl,rfl⟩:_∧_:=hX
  exact nK hS hQ
 ·simp only [tE] at hS
  intro e bl _ hX
  obtain ⟨rfl,hX⟩:_∧_:=hX
  exact cj (cj (bQ (bQ (cj (bQ (bg (dW hS hQ (je (by kernel_rfl) ((congrArg (fun s=>cN s 0 Qa.res) hX).trans TV)))))))))
def aht(a1:eL):St:=⟨(up (up u0 12 (dI 0)) 11 (BG a1)),h0⟩
def IB(a1:eL):Option (Int):=((b9 (xd a1) 0).bind fun KD=>(Sum.elim (fun z31=>(IA a1)) (fun KE=>(some KE)) KD))
theorem XP(hd:2≤d){a1:eL}{r:Int}(hQ:FQ (XL r) Q)(hS:IB a1=some r): ∀st,au [11,12] [] [] st=aht a1→ZX d Q WX [.seq WY,.blk 0,.seq WZ] st:=by
 intro st he
 refine av he ?_
 unfold IB at hS
 refine aC (bw (zS (zL 3 (zK (zS (zL 2 (zK (bw (aq hS (fun KD TX hS=>dF (vn a1) (AO a1) (fun x st r Q h0 hS hQ=>XM hd hQ hS h0) (x:=0) (z:=KD) (by show au _ _ _ _=_;kernel_rfl) TX ?_))))))))))
 rcases KD with z31 | KE
 ·replace hS:=(show _=_ from hS)
  simp only [tD] at hS
  intro e bl _ hX
  obtain ⟨rfl,rfl⟩:_∧_:=hX
  exact jK (XO hd hQ hS)
 ·simp only [tE] at hS
  intro e bl _ hX
  obtain ⟨rfl,hX⟩:_∧_:=hX
  exact cj (cj (bQ (bQ (cj (bQ (bg (dW hS hQ (je (by kernel_rfl) ((congrArg (fun s=>cN s 0 Qa.res) hX).trans TV)))))))))
def f23(a1:eL):Option (Int):=(IB a1)
theorem avR{d:Nat}(hd:2≤d){a1:eL}{r:Int}(hS:f23 a1=some r):bZ ay aX d 23 [(.agg ((cH.row 256 a1.Us)++((cH.row 256 a1.fX)++(((cu .u64).row 4 a1.yV)++(((cu .u64).row 4 a1.sr)++ [])))))] []=some ((dI r),[]):=by
 refine cI hd (fun Q hQ=>?_) aog
 unfold f23 at hS
 show ZR _ Q alN [] _
 replace hQ:FQ (XL r) Q:=hQ
 exact jR (XP hd hQ hS)
/- farwriter/about.Name -/
def TY(gQ:Bool):St:=⟨(up u0 2 (dB gQ)),h0⟩
theorem apk{gQ:Bool}:cN (TY gQ) 0 W4.res=some ((dB gQ),[]):=by
 kernel_rfl
def apl(r:Bool)(e:PX)(st:St):Prop:=aU W4 0 ((dB r),[]) e st
def ahu(a1:S8):St:=⟨(up u0 0 (.d (.str a1))),h0⟩
def IC(a1:S8):Option (Bool):=(bif (!decide (a1=([]:S8))) then (bif (decide ((a1.length:Int)≤40)) then (some true) else (some false)) else (some false))
theorem XQ(hd:1≤d){a1:S8}{r:Bool}(hQ:FQ (apl r) Q)(hS:IC a1=some r): ∀st,au [0] [] [] st=ahu a1→ZX d Q alR [] st:=by
 intro st he
 refine av he ?_
 unfold IC at hS
 refine zS (zL 1 (sB 21 hS (fun hS=>?_) (fun hS=>?_)))
 ·refine zL 3 (sB 25 hS (fun hS=>?_) (fun hS=>?_))
  ·exact nL hS hQ
  ·exact nL hS hQ
 ·exact nL hS hQ
def ahv(a1:S8)(x:Int):St:=⟨(up (up (up u0 6 (dI x)) 5 (dI (a1.length:Int))) 0 (.d (.str a1))),h0⟩
def vp(a1:S8)(x:Int)(st:St):Prop:=au [0,5,6] [] [] st=ahv a1 x
def Ej(a1:S8):St:=⟨(up u0 0 (.d (.str a1))),h0⟩
def AQ(a1:S8)(z:Unit⊕Bool)(e:PX)(st:St):Prop:=(match z with | .inl z=>e= .exit 0∧st=Ej a1 | .inr z=>e= .ret∧dV W4.fin st=TY z)
def QU(a1:S8)(lT:Int):St:=⟨(up (up (up u0 6 (dI lT)) 5 (dI (a1.length:Int))) 0 (.d (.str a1))),h0⟩
def xh(a1:S8)(lT:Int):Option (Int⊕(Unit⊕Bool)):=((idx a1 lT).bind fun z7=>(bif (decide ((z7.toNat:Int)<33)) then (some (.inr (.inr false))) else ((idx a1 lT).bind fun z8=>(bif (decide (126<(z8.toNat:Int))) then (some (.inr (.inr false))) else (some (.inl (IntKind.i64.wrap (lT+1))))))))
theorem Mx(hd:1≤d){a1:S8}{r:Int⊕(Unit⊕Bool)}(hQ:FQ (bG (vp a1) (AQ a1) r) Q){lT:Int}(hS:xh a1 lT=some r): ∀st,au [0,5,6] [] [] st=QU a1 lT→ZX d Q alO [] st:=by
 intro st he
 refine av he ?_
 unfold xh at hS
 refine aC (bw (zS (zL 2 (zK (zS (zL 2 (aq hS (fun z7 kO hS=>zO (v:=(.d (.int .u8 (z7.toNat:Int)))) (aD:= []) (some 11) (.iy (tm 9) (tm 10)) (fA (kk:= .i64) (s:=a1) (j:=lT) (by kernel_rfl) (by kernel_rfl) kO) (sB 12 hS (fun hS=>?_) (fun hS=>?_))))))))))
 ·exact zL 6 (zK (zT (zS (zL 1 (zK (cL (cj (bQ (bg (mG hS hQ))))))))))
 ·refine zL 3 (aq hS (fun z8 iW hS=>zG (v:=(.d (.int .u8 (z8.toNat:Int)))) (aD:= []) (some 16) 13 false (.iy (tm 14) (tm 15)) (fA (kk:= .i64) (s:=a1) (j:=lT) (by kernel_rfl) (by kernel_rfl) iW) (sB 17 hS (fun hS=>?_) (fun hS=>?_))))
  ·exact zL 1 (zK (zT (zS (zL 1 (zK (cL (cj (bQ (bg (mG hS hQ))))))))))
  ·exact lL hS hQ
def QV(a1:S8)(fI:Int)(lU:Bool):St:=⟨(up (up (up (up u0 7 (dB lU)) 6 (dI fI)) 5 (dI (a1.length:Int))) 0 (.d (.str a1))),h0⟩
def o6(a1:S8)(fI:Int)(lU:Bool):Option (Int⊕(Unit⊕Bool)):=(bif lU then (xh a1 fI) else (some (.inr (.inl ()))))
theorem BX(hd:1≤d){a1:S8}{r:Int⊕(Unit⊕Bool)}(hQ:FQ (bG (vp a1) (AQ a1) r) Q){fI:Int}{lU:Bool}(hS:o6 a1 fI lU=some r): ∀st,au [0,5,6,7] [] [] st=QV a1 fI lU→ZX d Q alP [] st:=by
 intro st he
 refine av he ?_
 unfold o6 at hS
 refine aC (sR 7 hS (fun hS=>?_) (fun hS=>?_))
 ·exact jR (Mx hd hQ hS)
 ·exact zF (av (J:=Ej a1) (by kernel_rfl) (cX (cV (bg (jw hS hQ)))))
def AR(a1:S8)(x:Int):Option (Int⊕(Unit⊕Bool)):=(bif (decide (x<(a1.length:Int))) then (o6 a1 x true) else (o6 a1 x false))
theorem XR(hd:1≤d){a1:S8}{r:Int⊕(Unit⊕Bool)}(hQ:FQ (bG (vp a1) (AQ a1) r) Q){x:Int}(hS:AR a1 x=some r)(he:vp a1 x st):ZX d Q alQ [] st:=by
 refine av he ?_
 unfold AR at hS
 refine zS (sB 7 hS (fun hS=>?_) (fun hS=>?_))
 ·exact zK (BX hd hQ hS _ (by kernel_rfl))
 ·exact jL (BX hd hQ hS)
def f63(a1:S8):Option (Bool):=((b9 (AR a1) 0).bind fun z9=>(Sum.elim (fun dh=>(IC a1)) (fun cM=>(some cM)) z9))
theorem avS{d:Nat}(hd:1≤d){a1:S8}{r:Bool}(hS:f63 a1=some r):bZ ay aX d 63 [(.d (.str a1))] []=some ((dB r),[]):=by
 refine cI hd (fun Q hQ=>?_) aoL
 unfold f63 at hS
 show ZR _ Q alS [] _
 replace hQ:FQ (apl r) Q:=hQ
 refine zS (zL 1 (zK (aC (zS (zL 3 (zK (bw (aq hS (fun z9 jF hS=>dF (vp a1) (AQ a1) (fun x st r Q h0 hS hQ=>XR hd hQ hS h0) (x:=0) (z:=z9) (by show au _ _ _ _=_;kernel_rfl) jF ?_)))))))))
 rcases z9 with dh | cM
 ·replace hS:=(show _=_ from hS)
  simp only [tD] at hS
  intro e bl _ hX
  obtain ⟨rfl,rfl⟩:_∧_:=hX
  exact jK (XQ hd hQ hS)
 ·simp only [tE] at hS
  intro e bl _ hX
  obtain ⟨rfl,hX⟩:_∧_:=hX
  exact cj (bQ (bg (dW hS hQ (je (by kernel_rfl) ((congrArg (fun s=>cN s 0 W4.res) hX).trans apk)))))
/- slices.Index[[]string,string] -/
def TZ(jZ:Int):St:=⟨(up u0 4 (dI jZ)),h0⟩
theorem apm{jZ:Int}:cN (TZ jZ) 0 W5.res=some ((dI jZ),[]):=by
 kernel_rfl
def aAB(r:Int)(e:PX)(st:St):Prop:=aU W5 0 ((dI r),[]) e st
def ahw(a1:List S8)(a2:S8)(x:Int):St:=⟨(up (up (up (up u0 8 (dI x)) 7 (dI (a1.length:Int))) 1 (.d (.str a2))) 0 (dE dN a1)),h0⟩
def vq(a1:List S8)(a2:S8)(x:Int)(st:St):Prop:=au [0,1,7,8] [] [] st=ahw a1 a2 x
def Ek(a1:List S8)(a2:S8):St:=⟨u0,h0⟩
def AU(a1:List S8)(a2:S8)(z:Unit⊕Int)(e:PX)(st:St):Prop:=(match z with | .inl z=>e= .exit 0∧st=Ek a1 a2 | .inr z=>e= .ret∧dV W5.fin st=TZ z)
def QW(a1:List S8)(a2:S8)(fI:Int):St:=⟨(up (up (up (up u0 8 (dI fI)) 7 (dI (a1.length:Int))) 1 (.d (.str a2))) 0 (dE dN a1)),h0⟩
def xj(a1:List S8)(a2:S8)(fI:Int):Option (Int⊕(Unit⊕Int)):=((idx a1 fI).bind fun z4=>(bif (decide (a2=z4)) then (some (.inr (.inr fI))) else (some (.inl (IntKind.i64.wrap (fI+1))))))
theorem My(hd:1≤d){a1:List S8}{a2:S8}{r:Int⊕(Unit⊕Int)}(hQ:FQ (bG (vq a1 a2) (AU a1 a2) r) Q){fI:Int}(hS:xj a1 a2 fI=some r): ∀st,au [0,1,7,8] [] [] st=QW a1 a2 fI→ZX d Q alT [] st:=by
 intro st he
 refine av he ?_
 unfold xj at hS
 refine aC (bw (zS (zL 2 (zK (zS (zL 3 (aq hS (fun z4 iZ hS=>zO (v:=(.cD (dN.enc z4++(dN.cells (a1.drop ((fI:Int).toNat+1)))))) (aD:= []) (some 14) (.jc 9 1 (tm 12) (tm 13)) (eY dN (kk:= .i64) (xs:=a1) (j:=fI) (by kernel_rfl) (by kernel_rfl) iZ rfl (by intro h;cases h)) (zL 1 (sB 16 hS (fun hS=>?_) (fun hS=>?_)))))))))))
 ·exact zK (zT (zS (zL 2 (zK (cL (cj (bQ (bg (mG hS hQ)))))))))
 ·exact lL hS hQ
def QX(a1:List S8)(a2:S8)(iM:Int)(kg:Bool):St:=⟨(up (up (up (up (up u0 9 (dB kg)) 8 (dI iM)) 7 (dI (a1.length:Int))) 1 (.d (.str a2))) 0 (dE dN a1)),h0⟩
def o7(a1:List S8)(a2:S8)(iM:Int)(kg:Bool):Option (Int⊕(Unit⊕Int)):=(bif kg then (xj a1 a2 iM) else (some (.inr (.inl ()))))
theorem BZ(hd:1≤d){a1:List S8}{a2:S8}{r:Int⊕(Unit⊕Int)}(hQ:FQ (bG (vq a1 a2) (AU a1 a2) r) Q){iM:Int}{kg:Bool}(hS:o7 a1 a2 iM kg=some r): ∀st,au [0,1,7,8,9] [] [] st=QX a1 a2 iM kg→ZX d Q alU [] st:=by
 intro st he
 refine av he ?_
 unfold o7 at hS
 refine aC (sR 9 hS (fun hS=>?_) (fun hS=>?_))
 ·exact jR (My hd hQ hS)
 ·exact zF (av (J:=Ek a1 a2) (by kernel_rfl) (cX (cV (bg (jw hS hQ)))))
def AV(a1:List S8)(a2:S8)(x:Int):Option (Int⊕(Unit⊕Int)):=(bif (decide (x<(a1.length:Int))) then (o7 a1 a2 x true) else (o7 a1 a2 x false))
theorem XS(hd:1≤d){a1:List S8}{a2:S8}{r:Int⊕(Unit⊕Int)}(hQ:FQ (bG (vq a1 a2) (AU a1 a2) r) Q){x:Int}(hS:AV a1 a2 x=some r)(he:vq a1 a2 x st):ZX d Q alV [] st:=by
 refine av he ?_
 unfold AV at hS
 refine zS (sB 9 hS (fun hS=>?_) (fun hS=>?_))
 ·exact zK (BZ hd hQ hS _ (by kernel_rfl))
 ·exact jL (BZ hd hQ hS)
def f93(a1:List S8)(a2:S8):Option (Int):=((b9 (AV a1 a2) 0).bind fun z5=>(Sum.elim (fun z6=>(some (-1))) (fun z7=>(some z7)) z5))
theorem avT{d:Nat}(hd:1≤d){a1:List S8}{a2:S8}{r:Int}(hS:f93 a1 a2=some r):bZ ay aX d 93 [(dE dN a1),(.d (.str a2))] []=some ((dI r),[]):=by
 refine cI hd (fun Q hQ=>?_) ao0
 unfold f93 at hS
 show ZR _ Q alW [] _
 replace hQ:FQ (aAB r) Q:=hQ
 refine zS (zL 1 (zK (aC (zS (zL 3 (zK (bw (aq hS (fun z5 jQ hS=>dF (vq a1 a2) (AU a1 a2) (fun x st r Q h0 hS hQ=>XS hd hQ hS h0) (x:=0) (z:=z5) (by show au _ _ _ _=_;kernel_rfl) jQ ?_)))))))))
 rcases z5 with z6 | z7
 ·replace hS:=(show _=_ from hS)
  simp only [tD] at hS
  intro e bl _ hX
  obtain ⟨rfl,rfl⟩:_∧_:=hX
  exact nK hS hQ
 ·simp only [tE] at hS
  intro e bl _ hX
  obtain ⟨rfl,hX⟩:_∧_:=hX
  exact cj (bQ (bg (dW hS hQ (je (by kernel_rfl) ((congrArg (fun s=>cN s 0 W5.res) hX).trans apm)))))
/- slices.Contains[[]string,string] -/
def aAC(r:Bool)(e:PX)(st:St):Prop:=aU c64 0 ((dB r),[]) e st
def f64(a1:List S8)(a2:S8):Option (Bool):=((f93 a1 a2).bind fun z2=>(bif (decide (0≤z2)) then (some true) else (some false)))
theorem avU{d:Nat}(hd:2≤d){a1:List S8}{a2:S8}{r:Bool}(hS:f64 a1 a2=some r):bZ ay aX d 64 [(dE dN a1),(.d (.str a2))] []=some ((dB r),[]):=by
 refine cI hd (fun Q hQ=>?_) aoM
 unfold f64 at hS
 show ZR _ Q alX [] _
 replace hQ:FQ (aAC r) Q:=hQ
 refine zS (zL 1 (zK (zS (zL 2 (aq hS (fun z2 hz2 hS=>zC 7 (avT (aV hd rfl) hz2) (sB 8 hS (fun hS=>?_) (fun hS=>?_))))))))
 ·exact nL hS hQ
 ·exact nL hS hQ
/- farwriter/about.Check -/
def T3(jZ:Int):St:=⟨(up u0 2 (dI jZ)),h0⟩
theorem apn{jZ:Int}:cN (T3 jZ) 0 W6.res=some ((dI jZ),[]):=by
 kernel_rfl
def XT(r:Int)(e:PX)(st:St):Prop:=aU W6 0 ((dI r),[]) e st
def ahx(a1:cA):St:=⟨(up u0 1 (pt 16)),(N2 a1)⟩
def ID(a1:cA):Option (Int):=(bif (decide (a1.At<0)) then (some 1) else (bif (decide ((a1.Names.length:Int)<a1.At)) then (some 1) else (some 0)))
theorem XU(hd:3≤d){a1:cA}{r:Int}(hQ:FQ (XT r) Q)(hS:ID a1=some r): ∀st,au [1] [(16,.id 16)] [] st=ahx a1→ZX d Q al1 [] st:=by
 intro st he
 refine av he ?_
 unfold ID at hS
 refine aC (zS (zL 2 (sB 37 hS (fun hS=>?_) (fun hS=>?_))))
 ·exact nL hS hQ
 ·refine zL 6 (sB 44 hS (fun hS=>?_) (fun hS=>?_))
  ·exact nL hS hQ
  ·exact nL hS hQ
def ahy(a1:cA)(x:Int):St:=⟨(up (up (up (up u0 18 (dI x)) 17 (dI (a1.Names.length:Int))) 16 (dE dN a1.Names)) 1 (pt 16)),(N2 a1)⟩
def vt(a1:cA)(x:Int)(st:St):Prop:=au [1,16,17,18] [(16,.id 16)] [] st=ahy a1 x
def El(a1:cA):St:=⟨(up u0 1 (pt 16)),(N2 a1)⟩
def AW(a1:cA)(z:Unit⊕Int)(e:PX)(st:St):Prop:=(match z with | .inl z=>e= .exit 0∧st=El a1 | .inr z=>e= .ret∧dV W6.fin st=T3 z)
def QY(a1:cA)(lU:Int):St:=⟨(up (up (up (up u0 18 (dI lU)) 17 (dI (a1.Names.length:Int))) 16 (dE dN a1.Names)) 1 (pt 16)),(N2 a1)⟩
def xk(a1:cA)(lU:Int):Option (Int⊕(Unit⊕Int)):=((idx a1.Names lU).bind fun dX=>((f63 dX).bind fun dR=>(bif (!dR) then (some (.inr (.inr 4))) else ((qL a1.Names 0 lU).bind fun eZ=>((f64 eZ dX).bind fun dx=>(bif dx then (some (.inr (.inr 4))) else (some (.inl (IntKind.i64.wrap (lU+1))))))))))
theorem Mz(hd:3≤d){a1:cA}{r:Int⊕(Unit⊕Int)}(hQ:FQ (bG (vt a1) (AW a1) r) Q){lU:Int}(hS:xk a1 lU=some r): ∀st,au [1,16,17,18] [(16,.id 16)] [] st=QY a1 lU→ZX d Q alY [] st:=by
 intro st he
 refine av he ?_
 unfold xk at hS
 refine aC (bw (zS (zL 1 (aq hS (fun dX iU hS=>zO (v:=(.cD (dN.enc dX++(dN.cells (a1.Names.drop ((lU:Int).toNat+1)))))) (aD:= []) (some 21) (.jc 9 1 (tm 16) (tm 18)) (eY dN (kk:= .i64) (xs:=a1.Names) (j:=lU) (by kernel_rfl) (by kernel_rfl) iU rfl (by intro h;cases h)) (zL 3 (zK (zS (zL 1 (aq hS (fun dR kz hS=>zC 24 (avS (aV hd rfl) kz) (zL 2 (sL 26 hS (fun hS=>?_) (fun hS=>?_))))))))))))))
 ·exact zL 7 (zK (zT (zS (zL 1 (zK (cL (cj (bQ (bg (mG hS hQ))))))))))
 ·refine zL 3 (aq hS (fun eZ lG hS=>zG (v:=(dE dN eZ)) (aD:= []) (some 30) 26 false (.wq 9 1 (tm 28) .none (.some (tm 29))) (Z_ dN (xs:=a1.Names) (a:=0) (c:=lU) (by kernel_rfl) rfl (CK 0) (mD _ (kk:= .i64) (j:=lU) (by kernel_rfl)) lG) (zL 1 (aq hS (fun dx ju hS=>zG (some 32) 26 false (.call 64 [(tm 30),(tm 31)]) (b_ (avU (aV hd rfl) ju)) (zL 1 (zK (sR 33 hS (fun hS=>?_) (fun hS=>?_)))))))))
  ·exact zT (zS (zL 1 (zK (cL (cj (bQ (bg (mG hS hQ))))))))
  ·exact lR hS hQ
def QZ(a1:cA)(kg:Int)(fI:Bool):St:=⟨(up (up (up (up (up u0 19 (dB fI)) 18 (dI kg)) 17 (dI (a1.Names.length:Int))) 16 (dE dN a1.Names)) 1 (pt 16)),(N2 a1)⟩
def o8(a1:cA)(kg:Int)(fI:Bool):Option (Int⊕(Unit⊕Int)):=(bif fI then (xk a1 kg) else (some (.inr (.inl ()))))
theorem B0(hd:3≤d){a1:cA}{r:Int⊕(Unit⊕Int)}(hQ:FQ (bG (vt a1) (AW a1) r) Q){kg:Int}{fI:Bool}(hS:o8 a1 kg fI=some r): ∀st,au [1,16,17,18,19] [(16,.id 16)] [] st=QZ a1 kg fI→ZX d Q alZ [] st:=by
 intro st he
 refine av he ?_
 unfold o8 at hS
 refine aC (sR 19 hS (fun hS=>?_) (fun hS=>?_))
 ·exact jR (Mz hd hQ hS)
 ·exact zF (av (J:=El a1) (by kernel_rfl) (cX (cV (bg (jw hS hQ)))))
def AX(a1:cA)(x:Int):Option (Int⊕(Unit⊕Int)):=(bif (decide (x<(a1.Names.length:Int))) then (o8 a1 x true) else (o8 a1 x false))
theorem XV(hd:3≤d){a1:cA}{r:Int⊕(Unit⊕Int)}(hQ:FQ (bG (vt a1) (AW a1) r) Q){x:Int}(hS:AX a1 x=some r)(he:vt a1 x st):ZX d Q al0 [] st:=by
 refine av he ?_
 unfold AX at hS
 refine zS (sB 19 hS (fun hS=>?_) (fun hS=>?_))
 ·exact zK (B0 hd hQ hS _ (by kernel_rfl))
 ·exact jL (B0 hd hQ hS)
def ahz(a1:cA):St:=⟨(up u0 1 (pt 16)),(N2 a1)⟩
def Em(a1:cA):Option (Int):=((b9 (AX a1) 0).bind fun f_=>(Sum.elim (fun gb=>(ID a1)) (fun gS=>(some gS)) f_))
theorem XW(hd:3≤d){a1:cA}{r:Int}(hQ:FQ (XT r) Q)(hS:Em a1=some r): ∀st,au [1] [(16,.id 16)] [] st=ahz a1→ZX d Q al2 [] st:=by
 intro st he
 refine av he ?_
 unfold Em at hS
 refine aC (zS (zL 4 (zK (bw (aq hS (fun f_ lH hS=>dF (vt a1) (AW a1) (fun x st r Q h0 hS hQ=>XV hd hQ hS h0) (x:=0) (z:=f_) (by show au _ _ _ _=_;kernel_rfl) lH ?_))))))
 rcases f_ with gb | gS
 ·replace hS:=(show _=_ from hS)
  simp only [tD] at hS
  intro e bl _ hX
  obtain ⟨rfl,rfl⟩:_∧_:=hX
  exact jK (XU hd hQ hS)
 ·simp only [tE] at hS
  intro e bl _ hX
  obtain ⟨rfl,hX⟩:_∧_:=hX
  exact cj (bQ (bg (dW hS hQ (je (by kernel_rfl) ((congrArg (fun s=>cN s 0 W6.res) hX).trans apn)))))
def f24(a1:cA):Option (Int):=(bif (decide ((a1.Names.length:Int)<1)) then (some 1) else (bif (decide (8<(a1.Names.length:Int))) then (some 1) else (Em a1)))
theorem avV{d:Nat}(hd:3≤d){a1:cA}{r:Int}(hS:f24 a1=some r):bZ ay aX d 24 [(.agg ((dE dN a1.Names)::((dI a1.At):: [])))] []=some ((dI r),[]):=by
 refine cI hd (fun Q hQ=>?_) aoh
 unfold f24 at hS
 show ZR _ Q al3 [] _
 replace hQ:FQ (XT r) Q:=hQ
 refine zS (zL 2 (zK (aC (zS (zL 3 (sB 8 hS (fun hS=>?_) (fun hS=>?_)))))))
 ·exact nL hS hQ
 ·refine zL 4 (sB 13 hS (fun hS=>?_) (fun hS=>?_))
  ·exact nL hS hQ
  ·exact jL (XW hd hQ hS)
/- farwriter/slc.Check -/
def T4(gQ:Int):St:=⟨(up u0 2 (dI gQ)),h0⟩
theorem apo{gQ:Int}:cN (T4 gQ) 0 W7.res=some ((dI gQ),[]):=by
 kernel_rfl
def apq(r:Int)(e:PX)(st:St):Prop:=aU W7 0 ((dI r),[]) e st
def ahA(a1:ic):St:=⟨(up u0 1 (pt 16)),(Tf a1)⟩
def IE(a1:ic):Option (Int):=(bif (!decide (((a1.iQ 0).toNat:Int)=0)) then (some 4) else (bif (!decide (((a1.qC 0).toNat:Int)=0)) then (some 4) else (some 0)))
theorem XX(hd:1≤d){a1:ic}{r:Int}(hQ:FQ (apq r) Q)(hS:IE a1=some r): ∀st,au [1] [(16,.id 16)] [] st=ahA a1→ZX d Q al7 [] st:=by
 intro st he
 refine av he ?_
 unfold IE at hS
 refine aC (zS (zL 3 (sB 16 hS (fun hS=>?_) (fun hS=>?_))))
 ·exact nL hS hQ
 ·refine zL 4 (sB 21 hS (fun hS=>?_) (fun hS=>?_))
  ·exact nL hS hQ
  ·exact nL hS hQ
def ahB(a1:ic)(x:Int):St:=⟨(up (up (up u0 7 (dI x)) 6 (.agg ((cH.row 19 a1.iQ)++ []))) 1 (pt 16)),(Tf a1)⟩
def vw(a1:ic)(x:Int)(st:St):Prop:=au [1,6,7] [(16,.id 16)] [] st=ahB a1 x
def En(a1:ic):St:=⟨(up u0 1 (pt 16)),(Tf a1)⟩
def AY(a1:ic)(z:Unit⊕Int)(e:PX)(st:St):Prop:=(match z with | .inl z=>e= .exit 0∧st=En a1 | .inr z=>e= .ret∧dV W7.fin st=T4 z)
def Q0(a1:ic)(lT:Int):St:=⟨(up (up (up u0 7 (dI lT)) 6 (.agg ((cH.row 19 a1.iQ)++ []))) 1 (pt 16)),(Tf a1)⟩
def xl(a1:ic)(lT:Int):Option (Int⊕(Unit⊕Int)):=((jO lT 19).bind fun m3=>(bif (decide (2<((a1.iQ m3).toNat:Int))) then (some (.inr (.inr 4))) else (some (.inl (IntKind.i64.wrap (lT+1))))))
theorem MA(hd:1≤d){a1:ic}{r:Int⊕(Unit⊕Int)}(hQ:FQ (bG (vw a1) (AY a1) r) Q){lT:Int}(hS:xl a1 lT=some r): ∀st,au [1,6,7] [(16,.id 16)] [] st=Q0 a1 lT→ZX d Q al4 [] st:=by
 intro st he
 refine av he ?_
 unfold xl at hS
 refine aC (bw (zS (aq hS (fun m3 hm3 hS=>zO (v:=(.d (.int .u8 ((a1.iQ m3).toNat:Int)))) (aD:= []) (some 9) (.HE .false 19 1 (tm 6) (tm 7)) (Av cH a1.iQ (kk:= .i64) (j:=lT) (by kernel_rfl) (by kernel_rfl) hm3 rfl (by kernel_rfl) (by kernel_rfl)) (zL 1 (zK (zS (zL 1 (sB 11 hS (fun hS=>?_) (fun hS=>?_))))))))))
 ·exact zK (zT (zS (zL 1 (zK (cL (cj (bQ (bg (mG hS hQ)))))))))
 ·exact lL hS hQ
def Q1(a1:ic)(fI:Int)(lU:Bool):St:=⟨(up (up (up (up u0 8 (dB lU)) 7 (dI fI)) 6 (.agg ((cH.row 19 a1.iQ)++ []))) 1 (pt 16)),(Tf a1)⟩
def o9(a1:ic)(fI:Int)(lU:Bool):Option (Int⊕(Unit⊕Int)):=(bif lU then (xl a1 fI) else (some (.inr (.inl ()))))
theorem B1(hd:1≤d){a1:ic}{r:Int⊕(Unit⊕Int)}(hQ:FQ (bG (vw a1) (AY a1) r) Q){fI:Int}{lU:Bool}(hS:o9 a1 fI lU=some r): ∀st,au [1,6,7,8] [(16,.id 16)] [] st=Q1 a1 fI lU→ZX d Q al5 [] st:=by
 intro st he
 refine av he ?_
 unfold o9 at hS
 refine aC (sR 8 hS (fun hS=>?_) (fun hS=>?_))
 ·exact jR (MA hd hQ hS)
 ·exact zF (av (J:=En a1) (by kernel_rfl) (cX (cV (bg (jw hS hQ)))))
def AZ(a1:ic)(x:Int):Option (Int⊕(Unit⊕Int)):=(bif (decide (x<19)) then (o9 a1 x true) else (o9 a1 x false))
theorem XY(hd:1≤d){a1:ic}{r:Int⊕(Unit⊕Int)}(hQ:FQ (bG (vw a1) (AY a1) r) Q){x:Int}(hS:AZ a1 x=some r)(he:vw a1 x st):ZX d Q al6 [] st:=by
 refine av he ?_
 unfold AZ at hS
 refine zS (sB 8 hS (fun hS=>?_) (fun hS=>?_))
 ·exact zK (B1 hd hQ hS _ (by kernel_rfl))
 ·exact jL (B1 hd hQ hS)
def f25(a1:ic):Option (Int):=((b9 (AZ a1) 0).bind fun z4=>(Sum.elim (fun z5=>(IE a1)) (fun z6=>(some z6)) z4))
theorem avX{d:Nat}(hd:1≤d){a1:ic}{r:Int}(hS:f25 a1=some r):bZ ay aX d 25 [(.agg ((cH.row 19 a1.iQ)++((cH.row 19 a1.qC)++ [])))] []=some ((dI r),[]):=by
 refine cI hd (fun Q hQ=>?_) aoi
 unfold f25 at hS
 show ZR _ Q al8 [] _
 replace hQ:FQ (apq r) Q:=hQ
 refine zS (zL 2 (zK (aC (zS (zL 3 (zK (bw (aq hS (fun z4 iZ hS=>dF (vw a1) (AY a1) (fun x st r Q h0 hS hQ=>XY hd hQ hS h0) (x:=0) (z:=z4) (by show au _ _ _ _=_;kernel_rfl) iZ ?_)))))))))
 rcases z4 with z5 | z6
 ·replace hS:=(show _=_ from hS)
  simp only [tD] at hS
  intro e bl _ hX
  obtain ⟨rfl,rfl⟩:_∧_:=hX
  exact jK (XX hd hQ hS)
 ·simp only [tE] at hS
  intro e bl _ hX
  obtain ⟨rfl,hX⟩:_∧_:=hX
  exact cj (bQ (bg (dW hS hQ (je (by kernel_rfl) ((congrArg (fun s=>cN s 0 W7.res) hX).trans apo)))))
/- farwriter/line.Check -/
def aAD(r:Int)(e:PX)(st:St):Prop:=aU c26 0 ((dI r),[]) e st
def f26(a1:su):Option (Int):=(bif (decide (1024≤(a1.oH.length:Int))) then (some 2) else (some 0))
theorem avY{d:Nat}(hd:1≤d){a1:su}{r:Int}(hS:f26 a1=some r):bZ ay aX d 26 [(.agg ((.d (.str a1.oH))::((dB a1.Quote):: [])))] []=some ((dI r),[]):=by
 refine cI hd (fun Q hQ=>?_) aoj
 unfold f26 at hS
 show ZR _ Q al9 [] _
 replace hQ:FQ (aAD r) Q:=hQ
 refine zS (zL 2 (zK (aC (zS (zL 3 (sB 6 hS (fun hS=>?_) (fun hS=>?_)))))))
 ·exact nL hS hQ
 ·exact nL hS hQ
/- farwriter/client.Check -/
def ad5(nu:Int):St:=⟨(up u0 2 (dI nu)),h0⟩
theorem avZ{nu:Int}:cN (ad5 nu) 0 c7.res=some ((dI nu),[]):=by
 kernel_rfl
def aDo(r:Int)(e:PX)(st:St):Prop:=aU c7 0 ((dI r),[]) e st
def apr(a1:bh)(x:(Nat→Int)×Int):St:=⟨(up (up u0 39 (dI x.2)) 38 (.agg ((eI.row 9 x.1)++ []))),h0⟩
def y_(a1:bh)(x:(Nat→Int)×Int)(st:St):Prop:=au [38,39] [] [] st=apr a1 x
def GX(a1:bh):St:=⟨u0,h0⟩
def Eo(a1:bh)(z:Unit⊕Int)(e:PX)(st:St):Prop:=(match z with | .inl z=>e= .exit 0∧st=GX a1 | .inr z=>e= .ret∧dV c7.fin st=ad5 z)
def T5(a1:bh)(gf:Nat→Int)(jH:Int):St:=⟨(up (up u0 39 (dI jH)) 38 (.agg ((eI.row 9 gf)++ []))),h0⟩
def A1(a1:bh)(gf:Nat→Int)(jH:Int):Option (((Nat→Int)×Int)⊕(Unit⊕Int)):=((jO jH 9).bind fun m23=>(bif (!decide ((gf m23)=0)) then (some (.inr (.inr 4))) else (some (.inl (gf,(IntKind.i64.wrap (jH+1)))))))
theorem Q2(hd:7≤d){a1:bh}{r:((Nat→Int)×Int)⊕(Unit⊕Int)}(hQ:FQ (bG (y_ a1) (Eo a1) r) Q){gf:Nat→Int}{jH:Int}(hS:A1 a1 gf jH=some r): ∀st,au [38,39] [] [] st=T5 a1 gf jH→ZX d Q ax_ [] st:=by
 intro st he
 refine av he ?_
 unfold A1 at hS
 refine aC (bw (zS (aq hS (fun m23 aps hS=>zO (v:=(dI (gf m23))) (aD:= []) (some 41) (.HE .false 9 1 (tm 38) (tm 39)) (Av eI gf (kk:= .i64) (j:=jH) (by kernel_rfl) (by kernel_rfl) aps rfl (by kernel_rfl) (by kernel_rfl)) (zL 1 (zK (zS (zL 1 (sB 43 hS (fun hS=>?_) (fun hS=>?_))))))))))
 ·exact zK (zT (zS (zL 1 (zK (cL (cj (bQ (bg (mG hS hQ)))))))))
 ·exact lL hS hQ
def T6(a1:bh)(ij:Nat→Int)(kS:Int)(fj:Bool):St:=⟨(up (up (up u0 40 (dB fj)) 39 (dI kS)) 38 (.agg ((eI.row 9 ij)++ []))),h0⟩
def rF(a1:bh)(ij:Nat→Int)(kS:Int)(fj:Bool):Option (((Nat→Int)×Int)⊕(Unit⊕Int)):=(bif fj then (A1 a1 ij kS) else (some (.inr (.inl ()))))
theorem Ep(hd:7≤d){a1:bh}{r:((Nat→Int)×Int)⊕(Unit⊕Int)}(hQ:FQ (bG (y_ a1) (Eo a1) r) Q){ij:Nat→Int}{kS:Int}{fj:Bool}(hS:rF a1 ij kS fj=some r): ∀st,au [38,39,40] [] [] st=T6 a1 ij kS fj→ZX d Q aya [] st:=by
 intro st he
 refine av he ?_
 unfold rF at hS
 refine aC (sR 40 hS (fun hS=>?_) (fun hS=>?_))
 ·exact jR (Q2 hd hQ hS)
 ·exact zF (av (J:=GX a1) (by kernel_rfl) (cX (cV (bg (jw hS hQ)))))
def KF(a1:bh)(x:(Nat→Int)×Int):Option (((Nat→Int)×Int)⊕(Unit⊕Int)):=(bif (decide (x.2<9)) then (rF a1 x.1 x.2 true) else (rF a1 x.1 x.2 false))
theorem ahC(hd:7≤d){a1:bh}{r:((Nat→Int)×Int)⊕(Unit⊕Int)}(hQ:FQ (bG (y_ a1) (Eo a1) r) Q){x:(Nat→Int)×Int}(hS:KF a1 x=some r)(he:y_ a1 x st):ZX d Q ayb [] st:=by
 refine av he ?_
 unfold KF at hS
 refine zS (sB 40 hS (fun hS=>?_) (fun hS=>?_))
 ·exact zK (Ep hd hQ hS _ (by kernel_rfl))
 ·exact jL (Ep hd hQ hS)
def f7(a1:bh):Option (Int):=((f18 a1.Vars).bind fun z12=>((f19 a1.gF).bind fun dX=>((f20 a1.Part).bind fun dR=>((f21 a1.dG).bind fun eZ=>((f22 a1.af).bind fun dx=>((f23 a1.Neg).bind fun f_=>((f24 a1.bN).bind fun gb=>((f25 a1.Keys).bind fun gS=>((f26 a1.gB).bind fun z20=>((b9 (KF a1) ((fun i=>([dX,dR,eZ,dx,f_,gb,z12.2,gS,z20]:List Int).getD i 0),0)).bind fun z24=>(Sum.elim (fun z25=>(some 0)) (fun z26=>(some z26)) z24)))))))))))
theorem aAE{d:Nat}(hd:7≤d){a1:bh}{r:Int}(hS:f7 a1=some r):bZ ay aX d 7 [(lQ a1)] []=some ((dI r),[]):=by
 refine cI hd (fun Q hQ=>?_) avD
 unfold f7 at hS
 show ZR _ Q ayc [] _
 replace hQ:FQ (aDo r) Q:=hQ
 refine zS (zL 2 (zK (zS (zL 2 (aq hS (fun z12 gG hS=>zC 10 (avK (aV hd rfl) gG) (zL 5 (zK (aC (aC (cG (cy 2 (aq hS (fun dX iU hS=>di (some 15) none (c1 19 14) (b_ (avG (aV hd rfl) iU)) (cy 2 (aq hS (fun dR kz hS=>di (some 18) none (c1 20 17) (b_ (adT (aV hd rfl) kz)) (cy 2 (aq hS (fun eZ lG hS=>di (some 21) none (c1 21 20) (b_ (adX (aV hd rfl) lG)) (cy 2 (aq hS (fun dx ju hS=>di (some 24) none (c1 22 23) (b_ (ad3 (aV hd rfl) ju)) (cy 2 (aq hS (fun f_ lH hS=>di (some 27) none (c1 23 26) (b_ (avR (aV hd rfl) lH)) (cy 2 (aq hS (fun gb nN hS=>di (some 30) none (c1 24 29) (b_ (avV (aV hd rfl) nN)) (cy 3 (aq hS (fun gS qM hS=>di (some 34) none (c1 25 33) (b_ (avX (aV hd rfl) qM)) (cy 2 (aq hS (fun z20 qN hS=>di (some 37) none (c1 26 36) (b_ (avY (aV hd rfl) qN)) (cy 2 (fG (cq (bw (aq hS (fun z24 qO hS=>dF (y_ a1) (Eo a1) (fun x st r Q h0 hS hQ=>ahC hd hQ hS h0) (x:=((fun i=>([dX,dR,eZ,dx,f_,gb,z12.2,gS,z20]:List Int).getD i 0),0)) (z:=z24) (by show au _ _ _ _=_;kernel_rfl) qO ?_)))))))))))))))))))))))))))))))))))))))))
 rcases z24 with z25 | z26
 ·replace hS:=(show _=_ from hS)
  simp only [tD] at hS
  intro e bl _ hX
  obtain ⟨rfl,rfl⟩:_∧_:=hX
  exact nK hS hQ
 ·simp only [tE] at hS
  intro e bl _ hX
  obtain ⟨rfl,hX⟩:_∧_:=hX
  exact cj (bQ (bg (dW hS hQ (je (by kernel_rfl) ((congrArg (fun s=>cN s 0 c7.res) hX).trans avZ)))))
/- slices.Clone[[]farwriter/api.Cell,farwriter/api.Cell] -/
def KG(p1:List ah):St:=⟨(up u0 2 (.r (.aL 97 0 0 p1.length))),(up h0 97 ⟨0,some (.own 87 4 (aj.cells p1))⟩)⟩
theorem T7{p1:List ah}:cN (KG p1) 0 Qb.res=some ((.r (.own 0 87 4 p1.length (aj.cells p1))),[]):=by
 exact iP (ids:= []) (ids':= [97]) (l:= [(.r (.aL 97 0 0 p1.length))]) (by kernel_rfl) (by kernel_rfl) (g_ aj (e:=87) (k:=4) (xs:=p1) (by kernel_rfl) rfl rfl rfl rfl)
def apt(r:List ah)(e:PX)(st:St):Prop:=aU Qb 0 ((.r (.own 0 87 4 r.length (aj.cells r))),[]) e st
def f70(a1:List ah):Option (List ah):=((eP 32 ([]:List ah) a1).bind fun z2=>(some z2))
theorem Er{d:Nat}(hd:1≤d){a1 r:List ah}(hS:f70 a1=some r):bZ ay aX d 70 [(dE aj a1)] []=some ((.r (.own 0 87 4 r.length (aj.cells r))),[]):=by
 refine JJ aoQ rfl rfl (Nat.le_trans (Nat.le_of_ble_eq_true rfl) hd) (fun Q hQ=>?_) (fun h0 Q hQ=>?_)
 ·unfold f70 at hS
  show ZR _ Q W8 [] _
  exact zS (zL 1 (zK (aC (zS (zL 2 (zK (zF (fV (cq (zS (zL 2 (aq hS (fun z2 hz2 hS=>zO (v:=(.r (.aL 48 2 0 z2.length))) (aD:= [(48,⟨2,some (.own 87 4 (aj.cells z2))⟩)]) (some 7) (.app 87 4 32 (tm 5) (tm 6)) (eM aj (b:=48) (g:=1) (n:=([]:List ah).length) (xs:= []) (ys:=a1) ((congrArg (fP _) (by kernel_rfl:b8 _ (.tmp 6)=(.jv false a1.length (aj.cells a1)))).trans rfl) rfl (by kernel_rfl) rfl (by kernel_rfl) rfl hz2) (zL 1 (zK (cL (bg (dW (F:=apt) hS hQ (je (by kernel_rfl) ((congrArg (fun s=>cN s 0 Qb.res) (by kernel_rfl:dV Qb.fin _=KG z2)).trans T7))))))))))))))))))))
 ·have hS:(some [])=some r:=by
   have hl:=List.eq_nil_of_length_eq_zero h0
   subst hl
   simpa [f70,eP] using hS
  show ZR _ Q W8 [] _
  exact zS (zL 1 (zK (aC (zS (zL 2 (zK (zT (zS (zL 1 (zK (cL (bQ (bg (dW (F:=apt) hS hQ (je (by kernel_rfl) ((congrArg (fun s=>cN s 0 Qb.res) (by kernel_rfl:dV Qb.fin _=KG [])).trans T7))))))))))))))))
/- farwriter/grid.Clone -/
def apu(p1 p2:Int)(p3:List ah):St:=⟨(up u0 2 (pt 24)),(up (up h0 48 ⟨0,some (.own 87 4 (aj.cells p3))⟩) 24 ⟨0,some (.box ((dI p1)::((dI p2)::((.r (.aL 48 0 0 p3.length)):: []))))⟩)⟩
theorem apv{p1 p2:Int}{p3:List ah}:cN (apu p1 p2 p3) 0 c69.res=some ((.agg ((dI p1)::((dI p2)::((.r (.own 0 87 4 p3.length (aj.cells p3))):: [])))),[]):=by
 exact iP (ids:= []) (ids':= [48]) (l:= [(.agg ((dI p1)::((dI p2)::((.r (.aL 48 0 0 p3.length)):: []))))]) (by kernel_rfl) (by kernel_rfl) (CN (aO rfl (aO rfl (aO (g_ aj (e:=87) (k:=4) (xs:=p3) (by kernel_rfl) rfl rfl rfl rfl) nH))))
def aAF(r:Int×Int×(List ah))(e:PX)(st:St):Prop:=aU c69 0 ((.agg ((dI r.1)::((dI r.2.1)::((.r (.own 0 87 4 r.2.2.length (aj.cells r.2.2))):: [])))),[]) e st
def f69(a1:bS):Option (Int×Int×(List ah)):=((f70 a1.Cells).bind fun z2=>(some (a1.bR,a1.bW,z2)))
theorem Q4{d:Nat}(hd:2≤d){a1:bS}{r:Int×Int×(List ah)}(hS:f69 a1=some r):bZ ay aX d 69 [(.agg (sy a1))] []=some ((.agg ((dI r.1)::((dI r.2.1)::((.r (.own 0 87 4 r.2.2.length (aj.cells r.2.2))):: [])))),[]):=by
 refine cI hd (fun Q hQ=>?_) aoP
 unfold f69 at hS
 show ZR _ Q al_ [] _
 replace hQ:FQ (aAF r) Q:=hQ
 exact zS (zL 2 (zK (zS (zL 2 (aq hS (fun z2 hz2 hS=>zC 5 (Er (aV hd rfl) hz2) (zL 2 (zK (zS (zL 2 (zK (cL (bg (dW hS hQ (fR apv)))))))))))))))
/- farwriter/screen.Clone -/
def apw(fI:aA):St:=⟨(up u0 2 (pt 24)),(yX h0 fI 24 72 96 32)⟩
theorem apx{fI:aA}:cN (apw fI) 0 c38.res=some ((.agg (eX fI)),[]):=by
 exact iP (ids:= []) (ids':= [72,96,32]) (l:= [(.agg (bX fI 72 0 96 0 32 0))]) (by kernel_rfl) (by kernel_rfl) (CN (aO rfl (aO rfl (aO (g_ aj (e:=87) (k:=4) (xs:=fI.aG.Cells) (by kernel_rfl) rfl rfl rfl rfl) (aO rfl (aO rfl (aO rfl (aO rfl (aO rfl (aO rfl (aO rfl (aO rfl (aO rfl (P4 (P5 (cu .u64)) (aO rfl (aO rfl (aO rfl (aO rfl (aO rfl (aO rfl (aO rfl (aO rfl (aO rfl (aO rfl (aO rfl (aO rfl (aO rfl (aO rfl (aO (g_ aj (e:=87) (k:=4) (xs:=fI.aT.Cells) (by kernel_rfl) rfl rfl rfl rfl) (aO rfl (aO (g_ bE (e:=111) (k:=1) (xs:=fI.bn) (by kernel_rfl) rfl rfl rfl rfl) nH)))))))))))))))))))))))))))))))
def aAG(r:aA)(e:PX)(st:St):Prop:=aU c38 0 ((.agg (eX r)),[]) e st
def ahD(a1:aA)(x:aA×(List bF)×Int):St:=⟨(up (up (up (up (up (up u0 17 (dI x.2.2)) 16 (dI (a1.bn.length:Int))) 15 (fY a1)) 3 (.r (.aL 32 0 0 x.2.1.length))) 2 (pt 24)) 1 (pt 16)),(up (up (up (up (up h0 32 ⟨0,some (.own 111 1 (bE.cells x.2.1))⟩) 24 nt) 96 ⟨0,some (aJ x.1)⟩) 72 ⟨0,some (aH x.1)⟩) 16 (ku x.1))⟩
def vA(a1:aA)(x:aA×(List bF)×Int)(st:St):Prop:=au [1,2,3,15,16,17] [(16,.id 16),(72,.id 72),(96,.id 96),(24,.id 24),(32,.id 32)] [.cell 24 2 0 0 1,.cell 24 30 0 0 1,.cell 24 32 0 0 1] st=ahD a1 x
def Es(a1 en:aA)(gA:List bF):St:=⟨(up (up (up u0 3 (.r (.aL 32 0 0 gA.length))) 2 (pt 24)) 1 (pt 16)),(up (up (up (up (up h0 32 ⟨0,some (.own 111 1 (bE.cells gA))⟩) 24 nt) 96 ⟨0,some (aJ en)⟩) 72 ⟨0,some (aH en)⟩) 16 (ku en))⟩
def A2(a1:aA)(z:(aA×(List bF)))(e:PX)(st:St):Prop:=e= .exit 0∧st=Es a1 z.1 z.2
def Q5(a1 iY:aA)(iF:List bF)(iG:Int):St:=⟨(up (up (up (up (up (up u0 17 (dI iG)) 16 (dI (a1.bn.length:Int))) 15 (fY a1)) 3 (.r (.aL 32 0 0 iF.length))) 2 (pt 24)) 1 (pt 16)),(up (up (up (up (up h0 32 ⟨0,some (.own 111 1 (bE.cells iF))⟩) 24 nt) 96 ⟨0,some (aJ iY)⟩) 72 ⟨0,some (aH iY)⟩) 16 (ku iY))⟩
def xm(a1 iY:aA)(iF:List bF)(iG:Int):Option ((aA×(List bF)×Int)⊕((aA×(List bF)))):=((idx a1.bn iG).bind fun z23=>((f70 z23.Cells).bind fun z24=>((eP 24 iF ([(bF.mk z24)]:List bF)).bind fun z25=>(some (.inl (iY,z25,(IntKind.i64.wrap (iG+1))))))))
theorem MB(hd:3≤d){a1:aA}{r:(aA×(List bF)×Int)⊕((aA×(List bF)))}(hQ:FQ (bG (vA a1) (A2 a1) r) Q){iY:aA}{iF:List bF}{iG:Int}(hS:xm a1 iY iF iG=some r): ∀st,au [1,2,3,15,16,17] [(16,.id 16),(72,.id 72),(96,.id 96),(24,.id 24),(32,.id 32)] [] st=Q5 a1 iY iF iG→ZX d Q amb [] st:=by
 intro st he
 refine av he ?_
 unfold xm at hS
 exact aC (bw (zS (aq hS (fun z23 y5 hS=>zO (v:=(.cD (bE.enc z23++(bE.cells (a1.bn.drop ((iG:Int).toNat+1)))))) (aD:= []) (some 19) (.jc 111 1 (tm 15) (tm 17)) (eY bE (kk:= .i64) (xs:=a1.bn) (j:=iG) (by kernel_rfl) (by kernel_rfl) y5 rfl (by intro h;cases h)) (zL 3 (zK (a_ (zL 3 (aq hS (fun z24 qO hS=>zC 24 (Er (aV hd rfl) qO) (zL 1 (zO (v:=(.r (.aL 216 1 0 (([(bF.mk z24)]:List bF).length)))) (aD:= [(200,⟨2,none⟩),(216,⟨1,some (.own 111 1 (bE.cells ([(bF.mk z24)])))⟩)]) (some 26) (.yy 111 1 1 [(1,(.slice .none 0 0))] [(0,(1,(tm 25)))]) ((by kernel_rfl:az _ _ 26 (b8 _) (.yy 111 1 1 [(1,(.slice .none 0 0))] [(0,(1,(.tmp 25)))])=some ((.r (.aL 216 1 0 (([(bF.mk z24)]:List bF).length))),[(200,⟨2,none⟩),(216,⟨1,some (.own 111 1 [.sl z24.length (((aj.cells z24).drop (0*aj.k)).take (z24.length*aj.k))])⟩)])).trans (by simp only [cS.P3];rfl)) (aq hS (fun z25 vB hS=>zO (v:=(.r (.aL 32 1 0 z25.length))) (aD:= [(32,⟨1,some (.own 111 1 (bE.cells z25))⟩)]) (some 27) (.app 111 1 24 (tm 21) (tm 26)) (eM bE (b:=32) (g:=0) (n:=iF.length) (xs:=iF) (ys:= [(bF.mk z24)]) ((congrArg (fP _) (by kernel_rfl:b8 _ (.tmp 26)=(.r (.aL 216 1 0 (([(bF.mk z24)]:List bF).length))))).trans (cZ bE (e:=111) (k:=1) (xs:= [(bF.mk z24)]) (by kernel_rfl) rfl rfl)) rfl (by kernel_rfl) rfl (by kernel_rfl) rfl vB) (lL hS hQ)))))))))))))))
def Q6(a1 sO:aA)(iE:List bF)(jG:Int)(fS:Bool):St:=⟨(up (up (up (up (up (up (up u0 18 (dB fS)) 17 (dI jG)) 16 (dI (a1.bn.length:Int))) 15 (fY a1)) 3 (.r (.aL 32 0 0 iE.length))) 2 (pt 24)) 1 (pt 16)),(up (up (up (up (up h0 32 ⟨0,some (.own 111 1 (bE.cells iE))⟩) 24 nt) 96 ⟨0,some (aJ sO)⟩) 72 ⟨0,some (aH sO)⟩) 16 (ku sO))⟩
def o_(a1 sO:aA)(iE:List bF)(jG:Int)(fS:Bool):Option ((aA×(List bF)×Int)⊕((aA×(List bF)))):=(bif fS then (xm a1 sO iE jG) else (some (.inr (sO,iE))))
theorem B2(hd:3≤d){a1:aA}{r:(aA×(List bF)×Int)⊕((aA×(List bF)))}(hQ:FQ (bG (vA a1) (A2 a1) r) Q){sO:aA}{iE:List bF}{jG:Int}{fS:Bool}(hS:o_ a1 sO iE jG fS=some r): ∀st,au [1,2,3,15,16,17,18] [(16,.id 16),(72,.id 72),(96,.id 96),(24,.id 24),(32,.id 32)] [] st=Q6 a1 sO iE jG fS→ZX d Q amc [] st:=by
 intro st he
 refine av he ?_
 unfold o_ at hS
 refine aC (sR 18 hS (fun hS=>?_) (fun hS=>?_))
 ·exact jR (MB hd hQ hS)
 ·exact zF (av (J:=Es a1 sO iE) (by kernel_rfl) (cX (cV (bg (jw hS hQ)))))
def xo(a1:aA)(x:aA×(List bF)×Int):Option ((aA×(List bF)×Int)⊕((aA×(List bF)))):=(bif (decide (x.2.2<(a1.bn.length:Int))) then (o_ a1 x.1 x.2.1 x.2.2 true) else (o_ a1 x.1 x.2.1 x.2.2 false))
theorem XZ(hd:3≤d){a1:aA}{r:(aA×(List bF)×Int)⊕((aA×(List bF)))}(hQ:FQ (bG (vA a1) (A2 a1) r) Q){x:aA×(List bF)×Int}(hS:xo a1 x=some r)(he:vA a1 x st):ZX d Q amd [] st:=by
 refine av he ?_
 unfold xo at hS
 refine zS (sB 18 hS (fun hS=>?_) (fun hS=>?_))
 ·exact zK (B2 hd hQ hS _ (by kernel_rfl))
 ·exact jL (B2 hd hQ hS)
def f38(a1:aA):Option (aA):=((f69 a1.aG).bind fun z12=>((f69 a1.aT).bind fun dX=>((b9 (xo a1) ({a1 with aG:=(bS.mk z12.1 z12.2.1 z12.2.2),aT:=(bS.mk dX.1 dX.2.1 dX.2.2)},[],0)).bind fun z26=>(some (aA.mk z26.1.aG z26.1.Row z26.1.cP z26.1.eK z26.1.ji z26.1.cT z26.1.bP z26.1.eE z26.1.eU z26.1.bp z26.1.cC z26.1.aI z26.1.aT z26.1.gz z26.2)))))
theorem IG{d:Nat}(hd:3≤d){a1 r:aA}(hS:f38 a1=some r):bZ ay aX d 38 [(.agg (bK a1))] []=some ((.agg (eX r)),[]):=by
 refine cI hd (fun Q hQ=>?_) aos
 unfold f38 at hS
 show ZR _ Q ame [] _
 replace hQ:FQ (aAG r) Q:=hQ
 refine zS (zL 2 (zK (aC (cG (cy 2 (aq hS (fun z12 gG hS=>di (some 8) none (c1 69 7) (b_ (Q4 (aV hd rfl) gG)) (cy 2 (aq hS (fun dX iU hS=>di (some 11) none (c1 69 10) (b_ (Q4 (aV hd rfl) iU)) (cy 4 (fG (cq (zS (zL 1 (zK (aC (zS (zL 4 (zK (bw (aq hS (fun z26 uY hS=>dF (vA a1) (A2 a1) (fun x st r Q h0 hS hQ=>XZ hd hQ hS h0) (x:=({a1 with aG:=(bS.mk z12.1 z12.2.1 z12.2.2),aT:=(bS.mk dX.1 dX.2.1 dX.2.2)},[],0)) (z:=z26) (by show au _ _ _ _=_;kernel_rfl) uY ?_)))))))))))))))))))))))
 intro e bl _ hX
 obtain ⟨rfl,rfl⟩:_∧_:=hX
 exact kq (cq (zS (zL 3 (zK (zS (zL 2 (zK (cL (bg (dW hS hQ (fR apx)))))))))))
/- slices.Clone[[]string,string] -/
def KH(p1:List S8):St:=⟨(up u0 2 (.r (.aL 97 0 0 p1.length))),(up h0 97 ⟨0,some (.own 9 1 (dN.cells p1))⟩)⟩
theorem T8{p1:List S8}:cN (KH p1) 0 Qc.res=some ((.r (.own 0 9 1 p1.length (dN.cells p1))),[]):=by
 exact iP (ids:= []) (ids':= [97]) (l:= [(.r (.aL 97 0 0 p1.length))]) (by kernel_rfl) (by kernel_rfl) (g_ dN (e:=9) (k:=1) (xs:=p1) (by kernel_rfl) rfl rfl rfl rfl)
def apy(r:List S8)(e:PX)(st:St):Prop:=aU Qc 0 ((.r (.own 0 9 1 r.length (dN.cells r))),[]) e st
def f39(a1:List S8):Option (List S8):=((eP 16 ([]:List S8) a1).bind fun z2=>(some z2))
theorem av0{d:Nat}(hd:1≤d){a1 r:List S8}(hS:f39 a1=some r):bZ ay aX d 39 [(dE dN a1)] []=some ((.r (.own 0 9 1 r.length (dN.cells r))),[]):=by
 refine JJ aot rfl rfl (Nat.le_trans (Nat.le_of_ble_eq_true rfl) hd) (fun Q hQ=>?_) (fun h0 Q hQ=>?_)
 ·unfold f39 at hS
  show ZR _ Q W9 [] _
  exact zS (zL 1 (zK (aC (zS (zL 2 (zK (zF (fV (cq (zS (zL 2 (aq hS (fun z2 hz2 hS=>zO (v:=(.r (.aL 48 2 0 z2.length))) (aD:= [(48,⟨2,some (.own 9 1 (dN.cells z2))⟩)]) (some 7) (.app 9 1 16 (tm 5) (tm 6)) (eM dN (b:=48) (g:=1) (n:=([]:List S8).length) (xs:= []) (ys:=a1) ((congrArg (fP _) (by kernel_rfl:b8 _ (.tmp 6)=(.jv false a1.length (dN.cells a1)))).trans rfl) rfl (by kernel_rfl) rfl (by kernel_rfl) rfl hz2) (zL 1 (zK (cL (bg (dW (F:=apy) hS hQ (je (by kernel_rfl) ((congrArg (fun s=>cN s 0 Qc.res) (by kernel_rfl:dV Qc.fin _=KH z2)).trans T8))))))))))))))))))))
 ·have hS:(some [])=some r:=by
   have hl:=List.eq_nil_of_length_eq_zero h0
   subst hl
   simpa [f39,eP] using hS
  show ZR _ Q W9 [] _
  exact zS (zL 1 (zK (aC (zS (zL 2 (zK (zT (zS (zL 1 (zK (cL (bQ (bg (dW (F:=apy) hS hQ (je (by kernel_rfl) ((congrArg (fun s=>cN s 0 Qc.res) (by kernel_rfl:dV Qc.fin _=KH [])).trans T8))))))))))))))))
/- slices.Clone[[]farwriter/api.Var,farwriter/api.Var] -/
def KI(p1:List dA):St:=⟨(up u0 2 (.r (.aL 97 0 0 p1.length))),(up h0 97 ⟨0,some (.own 118 4 (cY.cells p1))⟩)⟩
theorem T9{p1:List dA}:cN (KI p1) 0 Qd.res=some ((.r (.own 0 118 4 p1.length (cY.cells p1))),[]):=by
 exact iP (ids:= []) (ids':= [97]) (l:= [(.r (.aL 97 0 0 p1.length))]) (by kernel_rfl) (by kernel_rfl) (g_ cY (e:=118) (k:=4) (xs:=p1) (by kernel_rfl) rfl rfl rfl rfl)
def apz(r:List dA)(e:PX)(st:St):Prop:=aU Qd 0 ((.r (.own 0 118 4 r.length (cY.cells r))),[]) e st
def f40(a1:List dA):Option (List dA):=((eP 40 ([]:List dA) a1).bind fun z2=>(some z2))
theorem av1{d:Nat}(hd:1≤d){a1 r:List dA}(hS:f40 a1=some r):bZ ay aX d 40 [(dE cY a1)] []=some ((.r (.own 0 118 4 r.length (cY.cells r))),[]):=by
 refine JJ aou rfl rfl (Nat.le_trans (Nat.le_of_ble_eq_true rfl) hd) (fun Q hQ=>?_) (fun h0 Q hQ=>?_)
 ·unfold f40 at hS
  show ZR _ Q W_ [] _
  exact zS (zL 1 (zK (aC (zS (zL 2 (zK (zF (fV (cq (zS (zL 2 (aq hS (fun z2 hz2 hS=>zO (v:=(.r (.aL 48 2 0 z2.length))) (aD:= [(48,⟨2,some (.own 118 4 (cY.cells z2))⟩)]) (some 7) (.app 118 4 40 (tm 5) (tm 6)) (eM cY (b:=48) (g:=1) (n:=([]:List dA).length) (xs:= []) (ys:=a1) ((congrArg (fP _) (by kernel_rfl:b8 _ (.tmp 6)=(.jv false a1.length (cY.cells a1)))).trans rfl) rfl (by kernel_rfl) rfl (by kernel_rfl) rfl hz2) (zL 1 (zK (cL (bg (dW (F:=apz) hS hQ (je (by kernel_rfl) ((congrArg (fun s=>cN s 0 Qd.res) (by kernel_rfl:dV Qd.fin _=KI z2)).trans T9))))))))))))))))))))
 ·have hS:(some [])=some r:=by
   have hl:=List.eq_nil_of_length_eq_zero h0
   subst hl
   simpa [f40,eP] using hS
  show ZR _ Q W_ [] _
  exact zS (zL 1 (zK (aC (zS (zL 2 (zK (zT (zS (zL 1 (zK (cL (bQ (bg (dW (F:=apz) hS hQ (je (by kernel_rfl) ((congrArg (fun s=>cN s 0 Qd.res) (by kernel_rfl:dV Qd.fin _=KI [])).trans T9))))))))))))))))
end
end Go.Proofs.YtimbfadnabfabaaGreatDoor.Pm
