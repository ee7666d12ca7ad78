/- Typed functions, and that the codes are these. Printed by dec.py. -/
import Derived.Test.YtimbfadnabfabaaGreatDoorDMoH
namespace Go.Proofs.YtimbfadnabfabaaGreatDoor.Pm
noncomputable section
set_option maxRecDepth 1000000
set_option maxHeartbeats 20000000
set_option linter.unusedVariables false
set_option linter.unusedSimpArgs false
variable {d : Nat} {Q : PQ} {st : St}
/- farwriter/page.of -/
def aed(r:Int)(e:PX)(st:St):Prop:=aU abt 0 ((dI r),[]) e st
def Yp(a1:Int)(a2:UInt8):St:=⟨(up (up (up u0 5 (pt 48)) 1 (.d (.int .u8 (a2.toNat:Int)))) 0 (dI a1)),(up h0 48 ⟨0,some (.box ((eI.row 32 (fun i=>([160,9670,9618,9225,9228,9229,9226,176,177,9252,9227,9496,9488,9484,9492,9532,9146,9147,9472,9148,9149,9500,9508,9524,9516,9474,8804,8805,960,8800,163,183]:List Int).getD i 0))++ []))⟩)⟩
def vK(a1:Int)(a2:UInt8):Option (Int):=(bif (decide (a1=3)) then (bif (decide (95≤(a2.toNat:Int))) then (bif (decide ((a2.toNat:Int)≤126)) then ((jO ((a2-(95:UInt8)).toNat:Int) 32).bind fun m2=>(some (([160,9670,9618,9225,9228,9229,9226,176,177,9252,9227,9496,9488,9484,9492,9532,9146,9147,9472,9148,9149,9500,9508,9524,9516,9474,8804,8805,960,8800,163,183]:List Int).getD m2 0))) else (some (a2.toNat:Int))) else (some (a2.toNat:Int))) else (some (a2.toNat:Int)))
theorem G2(hd:1≤d){a1:Int}{a2:UInt8}{r:Int}(hQ:FQ (aed r) Q)(hS:vK a1 a2=some r): ∀st,au [0,1,5] [(48,.id 48)] [] st=Yp a1 a2→ZX d Q abp [.blk 0,.seq abq] st:=by
 intro st he
 refine av he ?_
 unfold vK at hS
 refine zS (zL 1 (sB 24 hS (fun hS=>?_) (fun hS=>?_)))
 ·refine zL 2 (sB 27 hS (fun hS=>?_) (fun hS=>?_))
  ·refine zL 3 (sB 31 hS (fun hS=>?_) (fun hS=>?_))
   ·exact zL 2 (zK (zT (zS (zL 1 (zO (v:=(.d (.int .u8 ((a2-(95:UInt8)).toNat:Int)))) (aD:= []) (some 34) (.rL .sub (tm 33) (.const (.int .u8 95))) (jf (kk:= .u8) (a:=(a2.toNat:Int)) (c:=((95:UInt8).toNat:Int)) (by kernel_rfl) (by kernel_rfl) (SV a2 (95:UInt8))) (aq hS (fun m2 Ua hS=>zO (v:=(.r (.ptr 48 0 (0+m2*1)))) (aD:= []) (some 35) (.tA 32 1 (tm 5) (tm 34)) (pJ (kk:= .u8) (b:=48) (g:=0) (o:=0) (j:=((a2-(95:UInt8)).toNat:Int)) (by kernel_rfl) (by kernel_rfl) Ua) (zO (v:=(dI (([160,9670,9618,9225,9228,9229,9226,176,177,9252,9227,9496,9488,9484,9492,9532,9146,9147,9472,9148,9149,9500,9508,9524,9516,9474,8804,8805,960,8800,163,183]:List Int).getD m2 0))) (aD:= []) (some 36) (lf 1 35) (uR eI (b:=48) (g:=0) (o:=0+m2*1) (f:=(fun i=>([160,9670,9618,9225,9228,9229,9226,176,177,9252,9227,9496,9488,9484,9492,9532,9146,9147,9472,9148,9149,9500,9508,9524,9516,9474,8804,8805,960,8800,163,183]:List Int).getD i 0)) (nn:=32) (m:=m2) (fo:=0) (pre:= []) (post:= []) (by kernel_rfl) (by kernel_rfl) (by kernel_rfl) (mh Ua) (by kernel_rfl) (by kernel_rfl) (by kernel_rfl)) (nL hS hQ)))))))))
   ·exact zL 2 (zK (zF (fV (rW (cq (zS (zL 1 (zO (v:=(dI (a2.toNat:Int))) (aD:= []) (some 38) (.kF .i64 (tm 37)) (gJ (kk:= .u8) (a:=(a2.toNat:Int)) (by kernel_rfl) (qW _)) (nL hS hQ)))))))))
  ·exact zL 6 (zK (zF (fV (rW (cq (zS (zL 1 (zO (v:=(dI (a2.toNat:Int))) (aD:= []) (some 38) (.kF .i64 (tm 37)) (gJ (kk:= .u8) (a:=(a2.toNat:Int)) (by kernel_rfl) (qW _)) (nL hS hQ)))))))))
 ·exact zL 9 (zK (zF (fV (rW (cq (zS (zL 1 (zO (v:=(dI (a2.toNat:Int))) (aD:= []) (some 38) (.kF .i64 (tm 37)) (gJ (kk:= .u8) (a:=(a2.toNat:Int)) (by kernel_rfl) (qW _)) (nL hS hQ)))))))))
def f236(a1:Int)(a2:UInt8):Option (Int):=(bif (decide (a1=2)) then (some (a2.toNat:Int)) else (bif (decide (127<(a2.toNat:Int))) then (some 65533) else (bif (decide (a1=4)) then (bif (decide ((a2.toNat:Int)=35)) then (some 163) else (vK a1 a2)) else (vK a1 a2))))
theorem apZ{d:Nat}(hd:1≤d){a1:Int}{a2:UInt8}{r:Int}(hS:f236 a1 a2=some r):bZ ay aX d 236 [(dI a1),(.d (.int .u8 (a2.toNat:Int)))] []=some ((dI r),[]):=by
 refine cI hd (fun Q hQ=>?_) agB
 unfold f236 at hS
 show ZR _ Q abr [] _
 replace hQ:FQ (aed r) Q:=hQ
 refine zS (zL 1 (zK (zS (zL 3 (zK (aC (bw (zS (zL 1 (sB 9 hS (fun hS=>?_) (fun hS=>?_)))))))))))
 ·exact zL 1 (zK (zT (zS (zL 1 (zO (v:=(dI (a2.toNat:Int))) (aD:= []) (some 11) (.kF .i64 (tm 10)) (gJ (kk:= .u8) (a:=(a2.toNat:Int)) (by kernel_rfl) (qW _)) (nL hS hQ))))))
 ·refine zL 1 (zK (zF (zS (zL 1 (sB 14 hS (fun hS=>?_) (fun hS=>?_))))))
  ·exact nL hS hQ
  ·refine zL 1 (zK (zF (zS (zL 1 (sB 17 hS (fun hS=>?_) (fun hS=>?_))))))
   ·refine zL 2 (sB 20 hS (fun hS=>?_) (fun hS=>?_))
    ·exact nL hS hQ
    ·exact zL 2 (zK (zF (G2 hd hQ hS _ (by kernel_rfl))))
   ·exact jL (G2 hd hQ hS)
/- farwriter/page.Rune -/
def awk(r:Int×Int)(e:PX)(st:St):Prop:=aU abv 0 ((.bH [(dI r.1),(dI r.2)]),[]) e st
def f211(a1:Int)(a2:UInt8):Option (Int×Int):=((f60 a1).bind fun z3=>(bif (!z3) then (some (0,6)) else ((f236 a1 a2).bind fun z4=>(some (z4,0)))))
theorem Ul{d:Nat}(hd:2≤d){a1:Int}{a2:UInt8}{r:Int×Int}(hS:f211 a1 a2=some r):bZ ay aX d 211 [(dI a1),(.d (.int .u8 (a2.toNat:Int)))] []=some ((.bH [(dI r.1),(dI r.2)]),[]):=by
 refine cI hd (fun Q hQ=>?_) agh
 unfold f211 at hS
 show ZR _ Q abu [] _
 replace hQ:FQ (awk r) Q:=hQ
 refine zS (zL 2 (zK (aC (zS (zL 1 (aq hS (fun z3 hz3 hS=>zC 7 (Ee (aV hd rfl) hz3) (zL 1 (zK (sR 8 hS (fun hS=>?_) (fun hS=>?_)))))))))))
 ·exact nR hS hQ
 ·exact zF (fV (cq (zS (zL 2 (aq hS (fun z4 iZ hS=>zC 11 (apZ (aV hd rfl) iZ) (nL hS hQ)))))))
/- farwriter/screen.limit -/
def awl(r:Int)(e:PX)(st:St):Prop:=aU abx 0 ((dI r),[]) e st
def f237(a1 a2 a3:Int):Option (Int):=(some (if (if a3<a1 then a3 else a1)>a2 then (if a3<a1 then a3 else a1) else a2))
theorem EI{d:Nat}(hd:1≤d){a1 a2:Int}{a3 r:Int}(hS:f237 a1 a2 a3=some r):bZ ay aX d 237 [(dI a1),(dI a2),(dI a3)] []=some ((dI r),[]):=by
 refine cI hd (fun Q hQ=>?_) agC
 unfold f237 at hS
 show ZR _ Q abw [] _
 replace hQ:FQ (awl r) Q:=hQ
 exact nR hS hQ
/- (*farwriter/screen.terminal).column -/
def awm(r:ag)(e:PX)(st:St):Prop:=aU abz 4 ((.bH []),[(ek r),(aH r.af),(aJ r.af),(aN r.af),.box []]) e st
def f212(a1:Int)(a2:ag):Option (ag):=((f237 a1 0 (IntKind.i64.wrap (a2.af.aG.bR-1))).bind fun z2=>(some (ag.mk ({a2.af with cP:=z2,eK:=false}) a2.sent)))
theorem gT{d:Nat}(hd:2≤d){a1:Int}{a2 r:ag}(hS:f212 a1 a2=some r):bZ ay aX d 212 [(pt 0),(dI a1)] [(ek a2),(aH a2.af),(aJ a2.af),(aN a2.af)]=some ((.bH []),[(ek r),(aH r.af),(aJ r.af),(aN r.af),.box []]):=by
 refine cI hd (fun Q hQ=>?_) agi
 unfold f212 at hS
 show ZR _ Q aby [] _
 replace hQ:FQ (awm r) Q:=hQ
 exact zS (zL 5 (zK (a_ (zL 9 (aq hS (fun z2 hz2 hS=>zC 17 (EI (aV hd rfl) hz2) (nL hS hQ)))))))
/- (*farwriter/screen.terminal).is -/
def awn(r:Bool)(e:PX)(st:St):Prop:=aU abB 0 ((dB r),[]) e st
def f214(a1:ag)(a2:List PD)(a3:Int):Option (Bool):=(bif (!decide ((cQ .and .i64 a1.af.eE a3)=0)) then (some true) else (some false))
theorem sX{d:Nat}(hd:1≤d){a1:ag}{a2:List PD}{a3:Int}{r:Bool}(hS:f214 a1 a2 a3=some r):bZ ay aX d 214 [(.cD (BD.enc a1++a2)),(dI a3)] []=some ((dB r),[]):=by
 refine cI hd (fun Q hQ=>?_) agk
 unfold f214 at hS
 show ZR _ Q abA [] _
 replace hQ:FQ (awn r) Q:=hQ
 refine zS (zL 1 (zK (zS (zL 7 (sB 12 hS (fun hS=>?_) (fun hS=>?_))))))
 ·exact nL hS hQ
 ·exact nL hS hQ
/- farwriter/grid.Row -/
def ahR(p1:List ah):St:=⟨(up u0 4 (.r (.aL 72 0 0 p1.length))),(up h0 72 ⟨0,some (.own 87 4 (aj.cells p1))⟩)⟩
theorem ahS{p1:List ah}:cN (ahR p1) 0 Ti.res=some ((.r (.own 0 87 4 p1.length (aj.cells p1))),[]):=by
 exact iP (ids:= []) (ids':= [72]) (l:= [(.r (.aL 72 0 0 p1.length))]) (by kernel_rfl) (by kernel_rfl) (g_ aj (e:=87) (k:=4) (xs:=p1) (by kernel_rfl) rfl rfl rfl rfl)
def awo(r:(List ah))(e:PX)(st:St):Prop:=aU Ti 0 ((.r (.own 0 87 4 r.length (aj.cells r))),[]) e st
def f238(a1:bS)(a2:Int):Option ((List ah)):=((f89 a1 a2).bind fun z3=>((f70 z3).bind fun z4=>(some z4)))
theorem ap0{d:Nat}(hd:2≤d){a1:bS}{a2:Int}{r:(List ah)}(hS:f238 a1 a2=some r):bZ ay aX d 238 [(.agg (sy a1)),(dI a2)] []=some ((.r (.own 0 87 4 r.length (aj.cells r))),[]):=by
 refine cI hd (fun Q hQ=>?_) agD
 unfold f238 at hS
 show ZR _ Q abC [] _
 replace hQ:FQ (awo r) Q:=hQ
 exact zS (zL 2 (zK (zS (zL 2 (aq hS (fun z3 hz3 hS=>zO (some 7) (.fU 89 [(tm 5),(tm 6)]) (wJ [] [] (adZ (aV hd rfl) hz3) qU) (aq hS (fun z4 iZ hS=>zC 8 (Er (aV hd rfl) iZ) (zL 1 (zK (cL (bg (dW hS hQ (fR ahS))))))))))))))
/- (*farwriter/screen.terminal).clear -/
def awp(r:bA)(e:PX)(st:St):Prop:=aU abE 0 ((BF r),[]) e st
def f216(a1:ag)(a2:List PD):Option (bA):=(some (bA.mk 0 0 a1.af.bP.dm))
theorem zn{d:Nat}(hd:1≤d){a1:ag}{a2:List PD}{r:bA}(hS:f216 a1 a2=some r):bZ ay aX d 216 [(.cD (BD.enc a1++a2))] []=some ((BF r),[]):=by
 refine cI hd (fun Q hQ=>?_) agm
 unfold f216 at hS
 show ZR _ Q abD [] _
 replace hQ:FQ (awp r) Q:=hQ
 exact nR hS hQ
/- farwriter/grid.row -/
def ap5(r:(List ah)×Nat×Nat)(e:PX)(st:St):Prop:=aU c89 1 ((.r (.aL 0 0 r.2.1 r.2.2)),[(.own 87 4 (aj.cells r.1)),.box []]) e st
def zo(a1 a2 a3:Int)(a4:List ah):Option ((List ah)×Nat×Nat):=((bU (decide (0≤(IntKind.i64.wrap (a3*a1)))&&decide ((IntKind.i64.wrap (a3*a1))≤(IntKind.i64.wrap ((IntKind.i64.wrap (a3+1))*a1)))&&decide ((IntKind.i64.wrap ((IntKind.i64.wrap (a3+1))*a1))≤(a4.length:Int)))).bind fun z2=>(some (a4,(((IntKind.i64.wrap (a3*a1)):Int).toNat),(((IntKind.i64.wrap ((IntKind.i64.wrap (a3+1))*a1)):Int).toNat-((IntKind.i64.wrap (a3*a1)):Int).toNat))))
theorem A8{d:Nat}(hd:1≤d){a1 a2 a3:Int}{a4:List ah}{r:(List ah)×Nat×Nat}(hS:zo a1 a2 a3 a4=some r):bZ ay aX d 89 [(.agg ((dI a1)::((dI a2)::((.r (.aL 0 0 0 a4.length)):: [])))),(dI a3)] [(.own 87 4 (aj.cells a4))]=some ((.r (.aL 0 0 r.2.1 r.2.2)),[(.own 87 4 (aj.cells r.1)),.box []]):=by
 refine cI hd (fun Q hQ=>?_) Tq
 unfold zo at hS
 show ZR _ Q WS [] _
 replace hQ:FQ (ap5 r) Q:=hQ
 exact zS (zL 2 (zK (zS (zL 11 (aq hS (fun z2 hz2 hS=>zO (v:=(.r (.aL 0 0 (((IntKind.i64.wrap (a3*a1)):Int).toNat) (((IntKind.i64.wrap ((IntKind.i64.wrap (a3+1))*a1)):Int).toNat-((IntKind.i64.wrap (a3*a1)):Int).toNat)))) (aD:= []) (some 16) (.wq 87 4 (tm 6) (.some (tm 10)) (.some (tm 15))) (DG (b:=0) (g:=0) (e:=87) (a:=(IntKind.i64.wrap (a3*a1))) (c:=(IntKind.i64.wrap ((IntKind.i64.wrap (a3+1))*a1))) (l:=0) (n:=a4.length) (l':=(((IntKind.i64.wrap (a3*a1)):Int).toNat)) (n':=(((IntKind.i64.wrap ((IntKind.i64.wrap (a3+1))*a1)):Int).toNat-((IntKind.i64.wrap (a3*a1)):Int).toNat)) (cs:=aj.cells a4) (by kernel_rfl) (by kernel_rfl) (mD _ (kk:= .i64) (j:=(IntKind.i64.wrap (a3*a1))) (by kernel_rfl)) (mD _ (kk:= .i64) (j:=(IntKind.i64.wrap ((IntKind.i64.wrap (a3+1))*a1))) (by kernel_rfl)) hz2 (by simp) rfl) (nL hS hQ)))))))
/- farwriter/grid.Blank -/
def awq(r:ah)(e:PX)(st:St):Prop:=aU abG 0 ((.agg (J5 r)),[]) e st
def f161(a1:bA):Option (ah):=(some (ah.mk 32 a1))
theorem KX{d:Nat}(hd:1≤d){a1:bA}{r:ah}(hS:f161 a1=some r):bZ ay aX d 161 [(BF a1)] []=some ((.agg (J5 r)),[]):=by
 refine cI hd (fun Q hQ=>?_) afX
 unfold f161 at hS
 show ZR _ Q abF [] _
 replace hQ:FQ (awq r) Q:=hQ
 exact nR hS hQ
/- math/bits.Mul64 -/
def awr(r:Int×Int)(e:PX)(st:St):Prop:=aU abI 0 ((.bH [(.d (.int .u64 r.1)),(.d (.int .u64 r.2))]),[]) e st
def f235(a1 a2:Int):Option (Int×Int):=(some ((IntKind.u64.wrap ((IntKind.u64.wrap ((IntKind.u64.wrap ((Int.fdiv a1 (2^32))*(Int.fdiv a2 (2^32))))+(Int.fdiv (IntKind.u64.wrap ((IntKind.u64.wrap ((Int.fdiv a1 (2^32))*(cQ .and .u64 a2 4294967295)))+(Int.fdiv (IntKind.u64.wrap ((cQ .and .u64 a1 4294967295)*(cQ .and .u64 a2 4294967295))) (2^32)))) (2^32))))+(Int.fdiv (IntKind.u64.wrap ((cQ .and .u64 (IntKind.u64.wrap ((IntKind.u64.wrap ((Int.fdiv a1 (2^32))*(cQ .and .u64 a2 4294967295)))+(Int.fdiv (IntKind.u64.wrap ((cQ .and .u64 a1 4294967295)*(cQ .and .u64 a2 4294967295))) (2^32)))) 4294967295)+(IntKind.u64.wrap ((cQ .and .u64 a1 4294967295)*(Int.fdiv a2 (2^32)))))) (2^32)))),(IntKind.u64.wrap (a1*a2))))
theorem ap6{d:Nat}(hd:1≤d){a1 a2:Int}{r:Int×Int}(hS:f235 a1 a2=some r):bZ ay aX d 235 [(.d (.int .u64 a1)),(.d (.int .u64 a2))] []=some ((.bH [(.d (.int .u64 r.1)),(.d (.int .u64 r.2))]),[]):=by
 refine cI hd (fun Q hQ=>?_) agA
 unfold f235 at hS
 show ZR _ Q abH [] _
 replace hQ:FQ (awr r) Q:=hQ
 exact nR hS hQ
/- math/bits.Mul -/
def aee(r:Int×Int)(e:PX)(st:St):Prop:=aU abL 0 ((.bH [(.d (.int .u64 r.1)),(.d (.int .u64 r.2))]),[]) e st
def Yq(a1 a2:Int):St:=⟨(up (up u0 1 (.d (.int .u64 a2))) 0 (.d (.int .u64 a1))),h0⟩
def EJ(a1 a2:Int):Option (Int×Int):=((f235 a1 a2).bind fun z2=>(some (z2.1,z2.2)))
theorem Um(hd:2≤d){a1 a2:Int}{r:Int×Int}(hQ:FQ (aee r) Q)(hS:EJ a1 a2=some r): ∀st,au [0,1] [] [] st=Yq a1 a2→ZX d Q abJ [] st:=by
 intro st he
 refine av he ?_
 unfold EJ at hS
 exact zS (zL 2 (aq hS (fun z2 hz2 hS=>zC 25 (ap6 (aV hd rfl) hz2) (nL hS hQ))))
def f205(a1 a2:Int):Option (Int×Int):=(EJ a1 a2)
theorem ap7{d:Nat}(hd:2≤d){a1 a2:Int}{r:Int×Int}(hS:f205 a1 a2=some r):bZ ay aX d 205 [(.d (.int .u64 a1)),(.d (.int .u64 a2))] []=some ((.bH [(.d (.int .u64 r.1)),(.d (.int .u64 r.2))]),[]):=by
 refine cI hd (fun Q hQ=>?_) agb
 unfold f205 at hS
 show ZR _ Q abK [] _
 replace hQ:FQ (aee r) Q:=hQ
 exact jR (Um hd hQ hS)
/- slices.Repeat[[]farwriter/api.Cell,farwriter/api.Cell] -/
def ahT(gQ:List ah):St:=⟨(up u0 4 (.r (.aL 248 0 0 gQ.length))),(up h0 248 ⟨0,some (.own 87 4 (aj.cells gQ))⟩)⟩
theorem ahU{gQ:List ah}:cN (ahT gQ) 0 Tj.res=some ((.r (.own 0 87 4 gQ.length (aj.cells gQ))),[]):=by
 exact iP (ids:= []) (ids':= [248]) (l:= [(.r (.aL 248 0 0 gQ.length))]) (by kernel_rfl) (by kernel_rfl) (g_ aj (e:=87) (k:=4) (xs:=gQ) (by kernel_rfl) rfl rfl rfl rfl)
def Ri(r:(List ah))(e:PX)(st:St):Prop:=aU Tj 0 ((.r (.own 0 87 4 r.length (aj.cells r))),[]) e st
def Yr(a1:List ah)(a2:Int)(x:(List ah)×Int):St:=⟨(up (up u0 8 (dI x.2)) 7 (.r (.aL 248 0 0 x.1.length))),(up h0 248 ⟨0,some (.own 87 4 (aj.cells x.1))⟩)⟩
def xz(a1:List ah)(a2:Int)(x:(List ah)×Int)(st:St):Prop:=au [7,8] [(248,.id 248)] [] st=Yr a1 a2 x
def B_(a1:List ah)(a2:Int)(gU:List ah):St:=⟨(up u0 7 (.r (.aL 248 0 0 gU.length))),(up h0 248 ⟨0,some (.own 87 4 (aj.cells gU))⟩)⟩
def C2(a1:List ah)(a2:Int)(z:((List ah)))(e:PX)(st:St):Prop:=e= .exit 0∧st=B_ a1 a2 z
def Ca(a1:List ah)(a2:Int)(en:List ah)(gA:Int):St:=⟨(up (up u0 8 (dI gA)) 7 (.r (.aL 248 0 0 en.length))),(up h0 248 ⟨0,some (.own 87 4 (aj.cells en))⟩)⟩
def tZ(a1:List ah)(a2:Int)(en:List ah)(gA:Int):Option (((List ah)×Int)⊕(((List ah)))):=((bU (decide (0≤gA)&&decide (gA≤(en.length:Int))&&decide ((en.length:Int)≤(en.length:Int)))).bind fun z37=>((bU (decide (0≤0)&&decide (0≤gA)&&decide (gA≤(en.length:Int)))).bind fun MP=>((qA en 0 ((gA:Int).toNat-(0:Int).toNat)).bind fun Rj=>((bU (decide (((gA:Int).toNat)+(((en.length:Int):Int).toNat-(gA:Int).toNat)≤en.length))).bind fun z40=>((some (mR en ((gA:Int).toNat) (((en.length:Int):Int).toNat-(gA:Int).toNat) Rj)).bind fun z41=>(some (.inl (z41,(IntKind.i64.wrap (gA+((min Rj.length (((z41.length:Int):Int).toNat-(gA:Int).toNat):Nat):Int)))))))))))
theorem KY(hd:3≤d){a1:List ah}{a2:Int}{r:((List ah)×Int)⊕(((List ah)))}(hQ:FQ (bG (xz a1 a2) (C2 a1 a2) r) Q){en:List ah}{gA:Int}(hS:tZ a1 a2 en gA=some r): ∀st,au [7,8] [(248,.id 248)] [] st=Ca a1 a2 en gA→ZX d Q abM [] st:=by
 intro st he
 refine av he ?_
 unfold tZ at hS
 refine bw (cG (cy 3 (aq hS (fun z37 ap9 hS=>di (v:=(.r (.aL 248 0 ((gA:Int).toNat) (((en.length:Int):Int).toNat-(gA:Int).toNat)))) (aD:= []) (some 41) none (.wq 87 4 (tm 39) (.some (tm 40)) .none) (DG (b:=248) (g:=0) (e:=87) (a:=gA) (c:=(en.length:Int)) (l:=0) (n:=en.length) (l':=((gA:Int).toNat)) (n':=(((en.length:Int):Int).toNat-(gA:Int).toNat)) (cs:=aj.cells en) (by kernel_rfl) (by kernel_rfl) (mD _ (kk:= .i64) (j:=gA) (by kernel_rfl)) (CK _) ap9 (by simp) rfl) (cy 2 (aq hS (fun MP aef hS=>di (v:=(.r (.aL 248 0 0 ((gA:Int).toNat-(0:Int).toNat)))) (aD:= []) (some 44) none (.wq 87 4 (tm 42) .none (.some (tm 43))) (DG (b:=248) (g:=0) (e:=87) (a:=0) (c:=gA) (l:=0) (n:=en.length) (l':=0) (n':=((gA:Int).toNat-(0:Int).toNat)) (cs:=aj.cells en) (by kernel_rfl) (by kernel_rfl) (CK 0) (mD _ (kk:= .i64) (j:=gA) (by kernel_rfl)) aef (by simp) rfl) (aq hS (fun Rj ap_ hS=>aq hS (fun z40 ayF hS=>aq hS (fun z41 aDs hS=>di (v:=(dI ((min Rj.length (((en.length:Int):Int).toNat-(gA:Int).toNat):Nat):Int))) (aD:= [(248,⟨0,some (.own 87 4 (aj.cells (mR en ((gA:Int).toNat) (((en.length:Int):Int).toNat-(gA:Int).toNat) Rj)))⟩)]) (some 45) none (.Di 4 (tm 41) (tm 44)) (Ii aj (b:=248) (g:=0) (l:=((gA:Int).toNat)) (n:=(((en.length:Int):Int).toNat-(gA:Int).toNat)) (e:=87) (xs:=en) (ys:=Rj) (by kernel_rfl) (by kernel_rfl) rfl ((congrArg (fP _) (by kernel_rfl:b8 _ (.tmp 44)=(.r (.aL 248 0 0 ((gA:Int).toNat-(0:Int).toNat))))).trans (aj2 aj (e:=87) (k:=4) (xs:=en) (by kernel_rfl) rfl ap_)) ayF) ?_)))))))))))
 have ayG:=Option.some.inj aDs
 have aDt:en.length=z41.length:=by rw [←ayG];exact (Aw (of_decide_eq_true (gZ ayF))).symm
 rw [ayG]
 try delta Ca
 try delta uT ek kN nt uU jY l8 lB ku lD lF
 try delta bX
 try rw [aDt]
 exact cy 2 (fG (lK hS hQ))
def vL(a1:List ah)(a2:Int)(x:(List ah)×Int):Option (((List ah)×Int)⊕(((List ah)))):=(bif (decide (x.2<(x.1.length:Int))) then (tZ a1 a2 x.1 x.2) else (some (.inr x.1)))
theorem Un(hd:3≤d){a1:List ah}{a2:Int}{r:((List ah)×Int)⊕(((List ah)))}(hQ:FQ (bG (xz a1 a2) (C2 a1 a2) r) Q){x:(List ah)×Int}(hS:vL a1 a2 x=some r)(he:xz a1 a2 x st):ZX d Q abN [] st:=by
 refine av he ?_
 unfold vL at hS
 refine aC (zS (zL 3 (sB 37 hS (fun hS=>?_) (fun hS=>?_))))
 ·exact jL (KY hd hQ hS)
 ·exact zK (zF (av (J:=B_ a1 a2 x.1) (by kernel_rfl) (cX (cV (bg (jw hS hQ))))))
def KZ(a1:List ah)(a2 Br:Int):St:=⟨(up (up u0 6 (.d (.int .u64 Br))) 0 (dE aj a1)),h0⟩
def vM(a1:List ah)(a2 Br:Int):Option ((List ah)):=((mk? 32 (IntKind.i64.wrap (Br)) (IntKind.i64.wrap (Br)) (ah.mk 0 (bA.mk 0 0 0))).bind fun z24=>((bU (decide (0+z24.length≤z24.length))).bind fun z25=>((some (mR z24 0 z24.length a1)).bind fun z26=>((b9 (vL a1 a2) (z26,((min a1.length z26.length:Nat):Int))).bind fun qF=>(some qF)))))
theorem zq(hd:3≤d){a1:List ah}{a2:Int}{r:(List ah)}(hQ:FQ (Ri r) Q){Br:Int}(hS:vM a1 a2 Br=some r): ∀st,au [0,6] [] [] st=KZ a1 a2 Br→ZX d Q abO [] st:=by
 intro st he
 refine av he ?_
 unfold vM at hS
 refine zS (zL 2 (aq hS (fun z24 qO hS=>zO (v:=(.r (.aL 248 1 0 z24.length))) (aD:= [(248,⟨1,some (.own 87 4 (aj.cells z24))⟩)]) (some 30) (.Pn 87 4 32 [(4,(.int .i64 0))] (tm 29) (tm 29)) (atl aj (kl:= .i64) (kc:= .i64) (z0:=(ah.mk 0 (bA.mk 0 0 0))) (a:=(IntKind.i64.wrap (Br))) (c:=(IntKind.i64.wrap (Br))) (by kernel_rfl) (by kernel_rfl) (by kernel_rfl) rfl qO) (zL 1 (zK (zS (zL 2 (aq hS (fun z25 vB hS=>aq hS (fun z26 uY hS=>zO (v:=(dI ((min a1.length z24.length:Nat):Int))) (aD:= [(248,⟨1,some (.own 87 4 (aj.cells (mR z24 0 z24.length a1)))⟩)]) (some 33) (.Di 4 (tm 31) (tm 32)) (Ii aj (b:=248) (g:=1) (l:=0) (n:=z24.length) (e:=87) (xs:=z24) (ys:=a1) (by kernel_rfl) (by kernel_rfl) rfl ((congrArg (fP _) (by kernel_rfl:b8 _ (.tmp 32)=(dE aj a1))).trans (ax0 _ _)) vB) ?_))))))))))
 have ayH:=Option.some.inj uY
 have aDu:z24.length=z26.length:=by rw [←ayH];exact (Aw (of_decide_eq_true (gZ vB))).symm
 rw [ayH]
 try delta KZ
 try delta uT ek kN nt uU jY l8 lB ku lD lF
 try delta bX
 try rw [aDu]
 refine zL 1 (zK (aC (bw (aq hS (fun qF Oy hS=>dF (xz a1 a2) (C2 a1 a2) (fun x st r Q h0 hS hQ=>Un hd hQ hS h0) (x:=(z26,((min a1.length z26.length:Nat):Int))) (z:=qF) (by show au _ _ _ _=_;kernel_rfl) Oy ?_)))))
 intro e bl _ hX
 obtain ⟨rfl,rfl⟩:_∧_:=hX
 exact kq (cq (zS (zL 2 (zK (cL (bg (dW hS hQ (fR ahU))))))))
def Ys(a1:List ah)(a2:Int):St:=⟨(up (up u0 1 (dI a2)) 0 (dE aj a1)),h0⟩
def zu(a1:List ah)(a2:Int):Option ((List ah)):=((f205 (IntKind.u64.wrap ((a1.length:Int))) (IntKind.u64.wrap (a2))).bind fun z21=>(bif (decide (0<z21.1)) then ((bU false).bind fun TR=>((bU false).bind fun z44=>(vM a1 a2 z21.2))) else (bif (decide (9223372036854775807<z21.2)) then ((bU false).bind fun QK=>((bU false).bind fun z46=>(vM a1 a2 z21.2))) else (vM a1 a2 z21.2))))
theorem G3(hd:3≤d){a1:List ah}{a2:Int}{r:(List ah)}(hQ:FQ (Ri r) Q)(hS:zu a1 a2=some r): ∀st,au [0,1] [] [] st=Ys a1 a2→ZX d Q abP [] st:=by
 intro st he
 refine av he ?_
 unfold zu at hS
 refine zS (zL 5 (aq hS (fun z21 p_ hS=>zC 18 (ap7 (aV hd rfl) p_) (zL 5 (zK (aC (zS (zL 1 (sB 22 hS (fun hS=>?_) (fun hS=>?_))))))))))
 ·exact zL 4 (zK (zT (a_ (aq hS (fun TR Oz hS=>zO (v:= .un) (aD:= []) (some 27) (.mx []) (by exact absurd Oz (by simp [bU])) (aq hS (fun z44 Kp hS=>zO (v:= .un) (aD:= []) none (.mx []) (by exact absurd Kp (by simp [bU])) (zK (zq hd hQ hS _ (by kernel_rfl))))))))))
 ·refine zL 2 (sB 25 hS (fun hS=>?_) (fun hS=>?_))
  ·exact zL 1 (zK (zT (a_ (aq hS (fun QK TS hS=>zO (v:= .un) (aD:= []) (some 27) (.mx []) (by exact absurd TS (by simp [bU])) (aq hS (fun z46 OA hS=>zO (v:= .un) (aD:= []) none (.mx []) (by exact absurd OA (by simp [bU])) (zK (zq hd hQ hS _ (by kernel_rfl))))))))))
  ·exact jL (zq hd hQ hS)
def f177(a1:List ah)(a2:Int):Option ((List ah)):=(bif (decide (a2<0)) then ((bU false).bind fun Eg=>((bU false).bind fun y7=>(zu a1 a2))) else (zu a1 a2))
theorem aqa{d:Nat}(hd:3≤d){a1:List ah}{a2:Int}{r:(List ah)}(hS:f177 a1 a2=some r):bZ ay aX d 177 [(dE aj a1),(dI a2)] []=some ((.r (.own 0 87 4 r.length (aj.cells r))),[]):=by
 refine cI hd (fun Q hQ=>?_) afY
 unfold f177 at hS
 show ZR _ Q abQ [] _
 replace hQ:FQ (Ri r) Q:=hQ
 refine zS (zL 1 (zK (aC (zS (zL 1 (sB 10 hS (fun hS=>?_) (fun hS=>?_)))))))
 ·exact zK (zT (a_ (aq hS (fun Eg Kz hS=>zO (v:= .un) (aD:= []) (some 11) (.mx []) (by exact absurd Kz (by simp [bU])) (aq hS (fun y7 GN hS=>zO (v:= .un) (aD:= []) none (.mx []) (by exact absurd GN (by simp [bU])) (zK (G3 hd hQ hS _ (by kernel_rfl)))))))))
 ·exact jL (G3 hd hQ hS)
/- farwriter/grid.blanks -/
def ahV(p1 p2:Int)(p3:List ah):St:=⟨(up u0 6 (pt 56)),(up (up h0 128 ⟨0,some (.own 87 4 (aj.cells p3))⟩) 56 ⟨0,some (.box ((dI p1)::((dI p2)::((.r (.aL 128 0 0 p3.length)):: []))))⟩)⟩
theorem ahW{p1 p2:Int}{p3:List ah}:cN (ahV p1 p2 p3) 0 c138.res=some ((.agg ((dI p1)::((dI p2)::((.r (.own 0 87 4 p3.length (aj.cells p3))):: [])))),[]):=by
 exact iP (ids:= []) (ids':= [128]) (l:= [(.agg ((dI p1)::((dI p2)::((.r (.aL 128 0 0 p3.length)):: []))))]) (by kernel_rfl) (by kernel_rfl) (CN (aO rfl (aO rfl (aO (g_ aj (e:=87) (k:=4) (xs:=p3) (by kernel_rfl) rfl rfl rfl rfl) nH))))
def aws(r:Int×Int×(List ah))(e:PX)(st:St):Prop:=aU c138 0 ((.agg ((dI r.1)::((dI r.2.1)::((.r (.own 0 87 4 r.2.2.length (aj.cells r.2.2))):: [])))),[]) e st
def f138(a1 a2:Int)(a3:bA):Option (Int×Int×(List ah)):=((f161 a3).bind fun z3=>((f177 [z3] (IntKind.i64.wrap (a1*a2))).bind fun z4=>(some (a1,a2,z4))))
theorem Uo{d:Nat}(hd:4≤d){a1 a2:Int}{a3:bA}{r:Int×Int×(List ah)}(hS:f138 a1 a2 a3=some r):bZ ay aX d 138 [(dI a1),(dI a2),(BF a3)] []=some ((.agg ((dI r.1)::((dI r.2.1)::((.r (.own 0 87 4 r.2.2.length (aj.cells r.2.2))):: [])))),[]):=by
 refine cI hd (fun Q hQ=>?_) afS
 unfold f138 at hS
 show ZR _ Q abR [] _
 replace hQ:FQ (aws r) Q:=hQ
 exact zS (zL 2 (zK (zS (zL 3 (aq hS (fun z3 hz3 hS=>zC 10 (KX (aV hd rfl) hz3) (zL 4 (aq hS (fun z4 iZ hS=>zO (some 15) (.call 177 [(tm 11),(tm 14)]) (iK (args:= [(.r (.aL 96 1 0 (([z3]:List ah).length))),(dI (IntKind.i64.wrap (a1*a2)))]) (by kernel_rfl) (jy (uB aj (e:=87) (k:=4) (xs:= [z3]) (by kernel_rfl) rfl rfl) (lk mF)) (aqa (aV hd rfl) iZ) (by simp only [oy aj (fun _=>rfl),oz,oA,rX,rY,oB,mE,oC,rZ,r_,si,Bool.and_true,Bool.or_true,Bool.and_self]) (by kernel_rfl)) (zL 2 (zK (cL (bg (dW hS hQ (fR ahW)))))))))))))))
/- farwriter/grid.ScrollIn$1 -/
def ahY(p1:List ah):St:=⟨(up u0 2 (.r (.aL 56 0 0 p1.length))),(up h0 56 ⟨0,some (.own 87 4 (aj.cells p1))⟩)⟩
theorem ahZ{p1:List ah}:cN (ahY p1) 0 Tk.res=some ((.r (.own 0 87 4 p1.length (aj.cells p1))),[]):=by
 exact iP (ids:= []) (ids':= [56]) (l:= [(.r (.aL 56 0 0 p1.length))]) (by kernel_rfl) (by kernel_rfl) (g_ aj (e:=87) (k:=4) (xs:=p1) (by kernel_rfl) rfl rfl rfl rfl)
def awt(r:(List ah))(e:PX)(st:St):Prop:=aU Tk 0 ((.r (.own 0 87 4 r.length (aj.cells r))),[]) e st
def f251(a1 a2:Int)(a3:bA)(a4:List PD):Option ((List ah)):=((f138 a1 1 a3).bind fun z2=>(some z2.2.2))
theorem aqb{d:Nat}(hd:5≤d){a1 a2:Int}{a3:bA}{a4:List PD}{r:(List ah)}(hS:f251 a1 a2 a3 a4=some r):bZ ay aX d 251 [(.cD [.int .i64 a1,.int .i64 a2,.un]),(.cD (k7.enc a3++a4))] []=some ((.r (.own 0 87 4 r.length (aj.cells r))),[]):=by
 refine cI hd (fun Q hQ=>?_) agM
 unfold f251 at hS
 show ZR _ Q abS [] _
 replace hQ:FQ (awt r) Q:=hQ
 exact zS (zL 1 (zK (zS (zL 3 (aq hS (fun z2 hz2 hS=>zC 6 (Uo (aV hd rfl) hz2) (zL 2 (zK (cL (bg (dW hS hQ (fR ahZ))))))))))))
/- farwriter/grid.move[[]farwriter/api.Cell] -/
def OM(q9 MH:Int)(qG:List ah)(sO:bA)(iE jG:List (List ah)):St:=⟨(up (up u0 2000000 .un) 6 (.r (.aL 64 0 0 jG.length))),(up (up (up (up (up h0 64 ⟨0,some (.own 26 1 ((ir aj).cells jG))⟩) 0 ⟨0,some (.own 26 1 ((ir aj).cells iE))⟩) 2 (yY sO)) 3 ⟨0,some (.own 87 4 (aj.cells qG))⟩) 1 ⟨0,some (.box ((dI q9)::((dI MH)::((.r (.aL 3 0 0 qG.length)):: []))))⟩)⟩
theorem ah0{q9 MH:Int}{qG:List ah}{sO:bA}{iE jG:List (List ah)}:cN (OM q9 MH qG sO iE jG) 4 N3.res=some ((.r (.own 0 26 1 jG.length ((ir aj).cells jG))),[(.own 26 1 ((ir aj).cells iE)),(.box ((dI q9)::((dI MH)::((.r (.aL 3 0 0 qG.length)):: [])))),(.box ((dI sO.Flags)::((dI sO.dP)::((dI sO.dm):: [])))),(.own 87 4 (aj.cells qG))]):=by
 exact iP (ids:= []) (ids':= [64]) (l:= [(.r (.aL 64 0 0 jG.length))]) (by kernel_rfl) (by kernel_rfl) (g_ (ir aj) (e:=26) (k:=1) (xs:=jG) (by kernel_rfl) rfl rfl rfl rfl)
def awu(r:Int×Int×(List ah)×bA×(List (List ah))×(List (List ah)))(e:PX)(st:St):Prop:=aU N3 4 ((.r (.own 0 26 1 r.2.2.2.2.2.length ((ir aj).cells r.2.2.2.2.2))),[(.own 26 1 ((ir aj).cells r.2.2.2.2.1)),(.box ((dI r.1)::((dI r.2.1)::((.r (.aL 3 0 0 r.2.2.1.length)):: [])))),(.box ((dI r.2.2.2.1.Flags)::((dI r.2.2.2.1.dP)::((dI r.2.2.2.1.dm):: [])))),(.own 87 4 (aj.cells r.2.2.1)),.box []]) e st
def Yt(a1:Int)(a2:List (List ah))(a3 a4:Int)(a5:bA)(a6:List ah)(x:(List (List ah))×Int):St:=⟨(up (up (up (up (up (up u0 12 (dI x.2)) 11 (dI (a2.length:Int))) 7 (.r (.aL 64 0 0 x.1.length))) 2 (.fn 251 [(pt 1),(pt 2)])) 1 (dI a1)) 0 (.r (.aL 0 0 0 a2.length))),(up (up (up (up (up h0 64 ⟨0,some (.own 26 1 ((ir aj).cells x.1))⟩) 0 ⟨0,some (.own 26 1 ((ir aj).cells a2))⟩) 2 (yY a5)) 3 ⟨0,some (.own 87 4 (aj.cells a6))⟩) 1 ⟨0,some (.box ((dI a3)::((dI a4)::((.r (.aL 3 0 0 a6.length)):: []))))⟩)⟩
def pz(a1:Int)(a2:List (List ah))(a3 a4:Int)(a5:bA)(a6:List ah)(x:(List (List ah))×Int)(st:St):Prop:=au [0,1,2,7,11,12] [(1,.id 1),(3,.id 3),(2,.id 2),(0,.id 0),(64,.id 64)] [] st=Yt a1 a2 a3 a4 a5 a6 x
def Cb(a1:Int)(a2:List (List ah))(a3 a4:Int)(a5:bA)(a6:List ah)(C1:List (List ah)):St:=⟨(up u0 7 (.r (.aL 64 0 0 C1.length))),(up (up (up (up (up h0 64 ⟨0,some (.own 26 1 ((ir aj).cells C1))⟩) 0 ⟨0,some (.own 26 1 ((ir aj).cells a2))⟩) 2 (yY a5)) 3 ⟨0,some (.own 87 4 (aj.cells a6))⟩) 1 ⟨0,some (.box ((dI a3)::((dI a4)::((.r (.aL 3 0 0 a6.length)):: []))))⟩)⟩
def sY(a1:Int)(a2:List (List ah))(a3 a4:Int)(a5:bA)(a6:List ah)(z:((List (List ah))))(e:PX)(st:St):Prop:=e= .exit 0∧st=Cb a1 a2 a3 a4 a5 a6 z
def MQ(a1:Int)(a2:List (List ah))(a3 a4:Int)(a5:bA)(a6:List ah)(nU:List (List ah))(jq:Int):St:=⟨(up (up (up (up (up (up u0 12 (dI jq)) 11 (dI (a2.length:Int))) 7 (.r (.aL 64 0 0 nU.length))) 2 (.fn 251 [(pt 1),(pt 2)])) 1 (dI a1)) 0 (.r (.aL 0 0 0 a2.length))),(up (up (up (up (up h0 64 ⟨0,some (.own 26 1 ((ir aj).cells nU))⟩) 0 ⟨0,some (.own 26 1 ((ir aj).cells a2))⟩) 2 (yY a5)) 3 ⟨0,some (.own 87 4 (aj.cells a6))⟩) 1 ⟨0,some (.box ((dI a3)::((dI a4)::((.r (.aL 3 0 0 a6.length)):: []))))⟩)⟩
def qj(a1:Int)(a2:List (List ah))(a3 a4:Int)(a5:bA)(a6:List ah)(nU:List (List ah))(jq:Int):Option (((List (List ah))×Int)⊕(((List (List ah))))):=((f251 a3 a4 a5 []).bind fun dx=>((eP 24 nU ([dx]:List (List ah))).bind fun f_=>(some (.inl (f_,(IntKind.i64.wrap (jq+1)))))))
theorem zv(hd:6≤d){a1:Int}{a2:List (List ah)}{a3 a4:Int}{a5:bA}{a6:List ah}{r:((List (List ah))×Int)⊕(((List (List ah))))}(hQ:FQ (bG (pz a1 a2 a3 a4 a5 a6) (sY a1 a2 a3 a4 a5 a6) r) Q){nU:List (List ah)}{jq:Int}(hS:qj a1 a2 a3 a4 a5 a6 nU jq=some r): ∀st,au [0,1,2,7,11,12] [(1,.id 1),(3,.id 3),(2,.id 2),(0,.id 0),(64,.id 64)] [] st=MQ a1 a2 a3 a4 a5 a6 nU jq→ZX d Q abT [.blk 1,.seq abU] st:=by
 intro st he
 refine av he ?_
 unfold qj at hS
 exact a_ (zL 2 (aq hS (fun dx ju hS=>zO (v:=(.r (.aL 288 1 0 dx.length))) (aD:= [(288,⟨1,some (.own 87 4 (aj.cells dx))⟩)]) (some 35) (.lM (tm 34) []) (ox (f:=251) (cs:= [(pt 1),(pt 2)]) (by kernel_rfl) (args:= [(pt 1),(pt 2)]) (l:= [(.cD [.int .i64 a3,.int .i64 a4,.un]),(.cD (k7.enc a5++ []))]) (r:=(.r (.own 0 87 4 dx.length (aj.cells dx)))) (by kernel_rfl) (by kernel_rfl) (aqb (aV hd rfl) ju) (by simp only [oy aj (fun _=>rfl),oz,oA,rX,rY,oB,mE,oC,rZ,r_,si,Bool.and_true,Bool.or_true,Bool.and_self]) (by kernel_rfl) (by kernel_rfl)) (zO (v:=(.r (.aL 296 1 0 (([dx]:List (List ah)).length)))) (aD:= [(288,⟨2,none⟩),(296,⟨1,some (.own 26 1 ((ir aj).cells ([dx])))⟩)]) (some 36) (.yy 26 1 1 [(1,(.slice .none 0 0))] [(0,(1,(tm 35)))]) ((by kernel_rfl:az _ _ 36 (b8 _) (.yy 26 1 1 [(1,(.slice .none 0 0))] [(0,(1,(.tmp 35)))])=some ((.r (.aL 296 1 0 (([dx]:List (List ah)).length))),[(288,⟨2,none⟩),(296,⟨1,some (.own 26 1 [.sl dx.length (((aj.cells dx).drop (0*aj.k)).take (dx.length*aj.k))])⟩)])).trans (by simp only [cS.P3];rfl)) (aq hS (fun f_ lH hS=>zO (v:=(.r (.aL 64 1 0 f_.length))) (aD:= [(64,⟨1,some (.own 26 1 ((ir aj).cells f_))⟩)]) (some 37) (.app 26 1 24 (tm 33) (tm 36)) (eM (ir aj) (b:=64) (g:=0) (n:=nU.length) (xs:=nU) (ys:= [dx]) ((congrArg (fP _) (by kernel_rfl:b8 _ (.tmp 36)=(.r (.aL 296 1 0 (([dx]:List (List ah)).length))))).trans (cZ (ir aj) (e:=26) (k:=1) (xs:= [dx]) (by kernel_rfl) rfl rfl)) rfl (by kernel_rfl) rfl (by kernel_rfl) rfl lH) (lL hS hQ)))))))
def MR(a1:Int)(a2:List (List ah))(a3 a4:Int)(a5:bA)(a6:List ah)(ny:List (List ah))(nI:Int):St:=⟨(up (up (up (up (up (up u0 12 (dI nI)) 11 (dI (a2.length:Int))) 7 (.r (.aL 64 0 0 ny.length))) 2 (.fn 251 [(pt 1),(pt 2)])) 1 (dI a1)) 0 (.r (.aL 0 0 0 a2.length))),(up (up (up (up (up h0 64 ⟨0,some (.own 26 1 ((ir aj).cells ny))⟩) 0 ⟨0,some (.own 26 1 ((ir aj).cells a2))⟩) 2 (yY a5)) 3 ⟨0,some (.own 87 4 (aj.cells a6))⟩) 1 ⟨0,some (.box ((dI a3)::((dI a4)::((.r (.aL 3 0 0 a6.length)):: []))))⟩)⟩
def t_(a1:Int)(a2:List (List ah))(a3 a4:Int)(a5:bA)(a6:List ah)(ny:List (List ah))(nI:Int):Option (((List (List ah))×Int)⊕(((List (List ah))))):=(bif (decide (0≤(IntKind.i64.wrap (nI-a1)))) then (bif (decide ((IntKind.i64.wrap (nI-a1))<(a2.length:Int))) then ((jO (IntKind.i64.wrap (nI-a1)) a2.length).bind fun m18=>((a2[m18]?).bind fun gS=>((eP 24 ny ([gS]:List (List ah))).bind fun z20=>(some (.inl (z20,(IntKind.i64.wrap (nI+1)))))))) else (qj a1 a2 a3 a4 a5 a6 ny nI)) else (qj a1 a2 a3 a4 a5 a6 ny nI))
theorem K0(hd:6≤d){a1:Int}{a2:List (List ah)}{a3 a4:Int}{a5:bA}{a6:List ah}{r:((List (List ah))×Int)⊕(((List (List ah))))}(hQ:FQ (bG (pz a1 a2 a3 a4 a5 a6) (sY a1 a2 a3 a4 a5 a6) r) Q){ny:List (List ah)}{nI:Int}(hS:t_ a1 a2 a3 a4 a5 a6 ny nI=some r): ∀st,au [0,1,2,7,11,12] [(1,.id 1),(3,.id 3),(2,.id 2),(0,.id 0),(64,.id 64)] [] st=MR a1 a2 a3 a4 a5 a6 ny nI→ZX d Q abV [] st:=by
 intro st he
 refine av he ?_
 unfold t_ at hS
 refine aC (bw (zS (zL 2 (zK (zS (zL 4 (zK (zS (zL 1 (sB 19 hS (fun hS=>?_) (fun hS=>?_)))))))))))
 ·refine zL 4 (sB 24 hS (fun hS=>?_) (fun hS=>?_))
  ·exact zL 1 (zK (zT (a_ (zL 3 (aq hS (fun m18 aDv hS=>zO (v:=(.r (.ptr 0 0 ((0+m18)*1)))) (aD:= []) (some 29) (.jc 26 1 (tm 27) (tm 28)) (Au (kk:= .i64) (b:=0) (g:=0) (l:=0) (n:=a2.length) (j:=(IntKind.i64.wrap (nI-a1))) (cs:=(ir aj).cells a2) (by kernel_rfl) (by kernel_rfl) (by kernel_rfl) aDv) (aq hS (fun gS qM hS=>zO (v:=(dE aj gS)) (aD:= []) (some 30) (lf 1 29) (FO (ir aj) (b:=0) (g:=0) (o:=(0+m18)*1) (e:=26) (k:=1) (m:=m18) (fo:=0) (xs:=a2) (by kernel_rfl) (by kernel_rfl) (by rw [Nat.zero_add];rfl) qM (by kernel_rfl) (by kernel_rfl) (by kernel_rfl)) (zL 1 (aq hS (fun z20 qN hS=>zO (v:=(.r (.aL 64 1 0 z20.length))) (aD:= [(64,⟨1,some (.own 26 1 ((ir aj).cells z20))⟩)]) (some 32) (.app 26 1 24 (tm 26) (tm 31)) (eM (ir aj) (b:=64) (g:=0) (n:=ny.length) (xs:=ny) (ys:= [gS]) ((congrArg (fP _) (by kernel_rfl:b8 _ (.tmp 31)=(.r (.aL 256 1 0 (([gS]:List (List ah)).length))))).trans (cZ (ir aj) (e:=26) (k:=1) (xs:= [gS]) (by kernel_rfl) rfl rfl)) rfl (by kernel_rfl) rfl (by kernel_rfl) rfl qN) (lL hS hQ))))))))))))
  ·exact zL 1 (zK (zF (zv hd hQ hS _ (by kernel_rfl))))
 ·exact jL (zv hd hQ hS)
def MS(a1:Int)(a2:List (List ah))(a3 a4:Int)(a5:bA)(a6:List ah)(iG:List (List ah))(fe:Int)(jk:Bool):St:=⟨(up (up (up (up (up (up (up u0 13 (dB jk)) 12 (dI fe)) 11 (dI (a2.length:Int))) 7 (.r (.aL 64 0 0 iG.length))) 2 (.fn 251 [(pt 1),(pt 2)])) 1 (dI a1)) 0 (.r (.aL 0 0 0 a2.length))),(up (up (up (up (up h0 64 ⟨0,some (.own 26 1 ((ir aj).cells iG))⟩) 0 ⟨0,some (.own 26 1 ((ir aj).cells a2))⟩) 2 (yY a5)) 3 ⟨0,some (.own 87 4 (aj.cells a6))⟩) 1 ⟨0,some (.box ((dI a3)::((dI a4)::((.r (.aL 3 0 0 a6.length)):: []))))⟩)⟩
def kV(a1:Int)(a2:List (List ah))(a3 a4:Int)(a5:bA)(a6:List ah)(iG:List (List ah))(fe:Int)(jk:Bool):Option (((List (List ah))×Int)⊕(((List (List ah))))):=(bif jk then (t_ a1 a2 a3 a4 a5 a6 iG fe) else (some (.inr iG)))
theorem zw(hd:6≤d){a1:Int}{a2:List (List ah)}{a3 a4:Int}{a5:bA}{a6:List ah}{r:((List (List ah))×Int)⊕(((List (List ah))))}(hQ:FQ (bG (pz a1 a2 a3 a4 a5 a6) (sY a1 a2 a3 a4 a5 a6) r) Q){iG:List (List ah)}{fe:Int}{jk:Bool}(hS:kV a1 a2 a3 a4 a5 a6 iG fe jk=some r): ∀st,au [0,1,2,7,11,12,13] [(1,.id 1),(3,.id 3),(2,.id 2),(0,.id 0),(64,.id 64)] [] st=MS a1 a2 a3 a4 a5 a6 iG fe jk→ZX d Q abW [] st:=by
 intro st he
 refine av he ?_
 unfold kV at hS
 refine aC (sR 13 hS (fun hS=>?_) (fun hS=>?_))
 ·exact jR (K0 hd hQ hS)
 ·exact zF (av (J:=Cb a1 a2 a3 a4 a5 a6 iG) (by kernel_rfl) (cX (cV (bg (jw hS hQ)))))
def ql(a1:Int)(a2:List (List ah))(a3 a4:Int)(a5:bA)(a6:List ah)(x:(List (List ah))×Int):Option (((List (List ah))×Int)⊕(((List (List ah))))):=(bif (decide (x.2<(a2.length:Int))) then (kV a1 a2 a3 a4 a5 a6 x.1 x.2 true) else (kV a1 a2 a3 a4 a5 a6 x.1 x.2 false))
theorem Uq(hd:6≤d){a1:Int}{a2:List (List ah)}{a3 a4:Int}{a5:bA}{a6:List ah}{r:((List (List ah))×Int)⊕(((List (List ah))))}(hQ:FQ (bG (pz a1 a2 a3 a4 a5 a6) (sY a1 a2 a3 a4 a5 a6) r) Q){x:(List (List ah))×Int}(hS:ql a1 a2 a3 a4 a5 a6 x=some r)(he:pz a1 a2 a3 a4 a5 a6 x st):ZX d Q abX [] st:=by
 refine av he ?_
 unfold ql at hS
 refine zS (sB 13 hS (fun hS=>?_) (fun hS=>?_))
 ·exact zK (zw hd hQ hS _ (by kernel_rfl))
 ·exact jL (zw hd hQ hS)
def f250(a1:Int)(a2:List (List ah))(a3 a4:Int)(a5:bA)(a6:List ah):Option (Int×Int×(List ah)×bA×(List (List ah))×(List (List ah))):=((b9 (ql a1 a2 a3 a4 a5 a6) ([],0)).bind fun z21=>(some (a3,a4,a6,a5,a2,z21)))
theorem aqc{d:Nat}(hd:6≤d){a1:Int}{a2:List (List ah)}{a3 a4:Int}{a5:bA}{a6:List ah}{r:Int×Int×(List ah)×bA×(List (List ah))×(List (List ah))}(hS:f250 a1 a2 a3 a4 a5 a6=some r):bZ ay aX d 250 [(.r (.aL 0 0 0 a2.length)),(dI a1),(.fn 251 [(pt 1),(pt 2)])] [(.own 26 1 ((ir aj).cells a2)),(.box ((dI a3)::((dI a4)::((.r (.aL 3 0 0 a6.length)):: [])))),(.box ((dI a5.Flags)::((dI a5.dP)::((dI a5.dm):: [])))),(.own 87 4 (aj.cells a6))]=some ((.r (.own 0 26 1 r.2.2.2.2.2.length ((ir aj).cells r.2.2.2.2.2))),[(.own 26 1 ((ir aj).cells r.2.2.2.2.1)),(.box ((dI r.1)::((dI r.2.1)::((.r (.aL 3 0 0 r.2.2.1.length)):: [])))),(.box ((dI r.2.2.2.1.Flags)::((dI r.2.2.2.1.dP)::((dI r.2.2.2.1.dm):: [])))),(.own 87 4 (aj.cells r.2.2.1)),.box []]):=by
 refine cI hd (fun Q hQ=>?_) agL
 unfold f250 at hS
 show ZR _ Q abY [] _
 replace hQ:FQ (awu r) Q:=hQ
 refine zS (zL 1 (zK (zS (zL 1 (zK (aC (zS (zL 3 (zK (bw (aq hS (fun z21 p_ hS=>dF (pz a1 a2 a3 a4 a5 a6) (sY a1 a2 a3 a4 a5 a6) (fun x st r Q h0 hS hQ=>Uq hd hQ hS h0) (x:=([],0)) (z:=z21) (by show au _ _ _ _=_;kernel_rfl) p_ ?_))))))))))))
 intro e bl _ hX
 obtain ⟨rfl,rfl⟩:_∧_:=hX
 exact kq (cq (zS (zL 2 (zK (cL (bg (dW hS hQ (azQ (by kernel_rfl) (by kernel_rfl:dV N3.fin _=OM a3 a4 a6 a5 a2 z21) (by kernel_rfl) ah0))))))))
/- farwriter/grid.ScrollIn -/
def aeg(r:(List ah))(e:PX)(st:St):Prop:=aU ab6 1 ((.bH []),[(.own 87 4 (aj.cells r)),.box []]) e st
def Yu(a1 a2:Int)(a3 a4 a5:Int)(a6:bA)(a7:List ah)(x:(List ah)×Int×Int×(List (List ah))×Int×Int):St:=⟨(up (up (up (up (up u0 34 (dI x.2.2.2.2.2)) 33 (dI x.2.2.2.2.1)) 32 (.r (.aL 256 0 0 x.2.2.2.1.length))) 5 (pt 48)) 1 (dI a3)),(up (up (up h0 256 ⟨0,some (.own 26 1 ((ir aj).cells x.2.2.2.1))⟩) 48 ⟨0,some (.box ((dI x.2.1)::((dI x.2.2.1)::((.r (.aL 0 0 0 x.1.length)):: []))))⟩) 0 ⟨0,some (.own 87 4 (aj.cells x.1))⟩)⟩
def sZ(a1 a2:Int)(a3 a4 a5:Int)(a6:bA)(a7:List ah)(x:(List ah)×Int×Int×(List (List ah))×Int×Int)(st:St):Prop:=au [1,5,32,33,34] [(0,.id 0),(48,.id 48),(256,.id 256)] [] st=Yu a1 a2 a3 a4 a5 a6 a7 x
def Cc(a1 a2:Int)(a3 a4 a5:Int)(a6:bA)(a7 Ur:List ah):St:=⟨u0,(up h0 0 ⟨0,some (.own 87 4 (aj.cells Ur))⟩)⟩
def xA(a1 a2:Int)(a3 a4 a5:Int)(a6:bA)(a7:List ah)(z:((List ah)))(e:PX)(st:St):Prop:=e= .exit 2∧st=Cc a1 a2 a3 a4 a5 a6 a7 z
def uD(a1 a2:Int)(a3 a4 a5:Int)(a6:bA)(a7 EK:List ah)(K1 K3:Int)(ye:List (List ah))(OO EL:Int):St:=⟨(up (up (up (up (up u0 34 (dI EL)) 33 (dI OO)) 32 (.r (.aL 256 0 0 ye.length))) 5 (pt 48)) 1 (dI a3)),(up (up (up h0 256 ⟨0,some (.own 26 1 ((ir aj).cells ye))⟩) 48 ⟨0,some (.box ((dI K1)::((dI K3)::((.r (.aL 0 0 0 EK.length)):: []))))⟩) 0 ⟨0,some (.own 87 4 (aj.cells EK))⟩)⟩
def ua(a1 a2:Int)(a3 a4 a5:Int)(a6:bA)(a7 EK:List ah)(K1 K3:Int)(ye:List (List ah))(OO EL:Int):Option (((List ah)×Int×Int×(List (List ah))×Int×Int)⊕(((List ah)))):=((jO EL ye.length).bind fun m58=>((ye[m58]?).bind fun z59=>((zo K1 K3 (IntKind.i64.wrap (a3+EL)) EK).bind fun vk=>((bU (decide (vk.1.length=EK.length))).bind fun z61=>((bU (decide (vk.2.1+vk.2.2≤vk.1.length))).bind fun z62=>((some (mR vk.1 vk.2.1 vk.2.2 z59)).bind fun z63=>(some (.inl (z63,K1,K3,ye,OO,(IntKind.i64.wrap (EL+1)))))))))))
theorem K4(hd:7≤d){a1 a2:Int}{a3 a4 a5:Int}{a6:bA}{a7:List ah}{r:((List ah)×Int×Int×(List (List ah))×Int×Int)⊕(((List ah)))}(hQ:FQ (bG (sZ a1 a2 a3 a4 a5 a6 a7) (xA a1 a2 a3 a4 a5 a6 a7) r) Q){EK:List ah}{K1 K3:Int}{ye:List (List ah)}{OO EL:Int}(hS:ua a1 a2 a3 a4 a5 a6 a7 EK K1 K3 ye OO EL=some r): ∀st,au [1,5,32,33,34] [(0,.id 0),(48,.id 48),(256,.id 256)] [] st=uD a1 a2 a3 a4 a5 a6 a7 EK K1 K3 ye OO EL→ZX d Q ab1 [] st:=by
 intro st he
 refine av he ?_
 unfold ua at hS
 refine aC (bw (zS (zL 1 (aq hS (fun m58 aDw hS=>zO (v:=(.r (.ptr 256 0 ((0+m58)*1)))) (aD:= []) (some 37) (.jc 26 1 (tm 32) (tm 34)) (Au (kk:= .i64) (b:=256) (g:=0) (l:=0) (n:=ye.length) (j:=EL) (cs:=(ir aj).cells ye) (by kernel_rfl) (by kernel_rfl) (by kernel_rfl) aDw) (aq hS (fun z59 TU hS=>zO (v:=(dE aj z59)) (aD:= []) (some 38) (lf 1 37) (FO (ir aj) (b:=256) (g:=0) (o:=(0+m58)*1) (e:=26) (k:=1) (m:=m58) (fo:=0) (xs:=ye) (by kernel_rfl) (by kernel_rfl) (by rw [Nat.zero_add];rfl) TU (by kernel_rfl) (by kernel_rfl) (by kernel_rfl)) (zL 2 (zK (a_ (zL 4 (Xf 43 [0] (fun _ h=>A8 (aV hd rfl) h) hS (fun vk ayy aqe hS=>?_)))))))))))))
 have aDx:EK.length=vk.1.length:=(of_decide_eq_true (gZ aqe)).symm
 try delta uD
 try delta uT ek kN nt uU jY l8 lB ku lD lF
 try delta bX
 try rw [aDx]
 refine zL 1 (aq hS (fun z62 aeh hS=>aq hS (fun z63 aDy hS=>zO (v:=(dI ((min z59.length vk.2.2:Nat):Int))) (aD:= [(0,⟨0,some (.own 87 4 (aj.cells (mR vk.1 vk.2.1 vk.2.2 z59)))⟩)]) (some 45) (.Di 4 (tm 43) (tm 44)) (Ii aj (b:=0) (g:=0) (l:=vk.2.1) (n:=vk.2.2) (e:=87) (xs:=vk.1) (ys:=z59) (by kernel_rfl) (by kernel_rfl) rfl ((congrArg (fP _) (by kernel_rfl:b8 _ (.tmp 44)=(dE aj z59))).trans (ax0 _ _)) aeh) ?_)))
 have ayI:=Option.some.inj aDy
 have aDz:vk.1.length=z63.length:=by rw [←ayI];exact (Aw (of_decide_eq_true (gZ aeh))).symm
 rw [ayI]
 try delta uD
 try delta uT ek kN nt uU jY l8 lB ku lD lF
 try delta bX
 try rw [aDz]
 exact lL hS hQ
def MT(a1 a2:Int)(a3 a4 a5:Int)(a6:bA)(a7 EM:List ah)(OP OQ:Int)(K5:List (List ah))(OS OT:Int)(OU:Bool):St:=⟨(up (up (up (up (up (up u0 35 (dB OU)) 34 (dI OT)) 33 (dI OS)) 32 (.r (.aL 256 0 0 K5.length))) 5 (pt 48)) 1 (dI a3)),(up (up (up h0 256 ⟨0,some (.own 26 1 ((ir aj).cells K5))⟩) 48 ⟨0,some (.box ((dI OP)::((dI OQ)::((.r (.aL 0 0 0 EM.length)):: []))))⟩) 0 ⟨0,some (.own 87 4 (aj.cells EM))⟩)⟩
def kW(a1 a2:Int)(a3 a4 a5:Int)(a6:bA)(a7 EM:List ah)(OP OQ:Int)(K5:List (List ah))(OS OT:Int)(OU:Bool):Option (((List ah)×Int×Int×(List (List ah))×Int×Int)⊕(((List ah)))):=(bif OU then (ua a1 a2 a3 a4 a5 a6 a7 EM OP OQ K5 OS OT) else (some (.inr EM)))
theorem zx(hd:7≤d){a1 a2:Int}{a3 a4 a5:Int}{a6:bA}{a7:List ah}{r:((List ah)×Int×Int×(List (List ah))×Int×Int)⊕(((List ah)))}(hQ:FQ (bG (sZ a1 a2 a3 a4 a5 a6 a7) (xA a1 a2 a3 a4 a5 a6 a7) r) Q){EM:List ah}{OP OQ:Int}{K5:List (List ah)}{OS OT:Int}{OU:Bool}(hS:kW a1 a2 a3 a4 a5 a6 a7 EM OP OQ K5 OS OT OU=some r): ∀st,au [1,5,32,33,34,35] [(0,.id 0),(48,.id 48),(256,.id 256)] [] st=MT a1 a2 a3 a4 a5 a6 a7 EM OP OQ K5 OS OT OU→ZX d Q ab2 [] st:=by
 intro st he
 refine av he ?_
 unfold kW at hS
 refine aC (sR 35 hS (fun hS=>?_) (fun hS=>?_))
 ·exact jR (K4 hd hQ hS)
 ·exact zF (av (J:=Cc a1 a2 a3 a4 a5 a6 a7 EM) (by kernel_rfl) (cX (cV (bg (jw hS hQ)))))
def s3(a1 a2:Int)(a3 a4 a5:Int)(a6:bA)(a7:List ah)(x:(List ah)×Int×Int×(List (List ah))×Int×Int):Option (((List ah)×Int×Int×(List (List ah))×Int×Int)⊕(((List ah)))):=(bif (decide (x.2.2.2.2.2<x.2.2.2.2.1)) then (kW a1 a2 a3 a4 a5 a6 a7 x.1 x.2.1 x.2.2.1 x.2.2.2.1 x.2.2.2.2.1 x.2.2.2.2.2 true) else (kW a1 a2 a3 a4 a5 a6 a7 x.1 x.2.1 x.2.2.1 x.2.2.2.1 x.2.2.2.2.1 x.2.2.2.2.2 false))
theorem Uu(hd:7≤d){a1 a2:Int}{a3 a4 a5:Int}{a6:bA}{a7:List ah}{r:((List ah)×Int×Int×(List (List ah))×Int×Int)⊕(((List ah)))}(hQ:FQ (bG (sZ a1 a2 a3 a4 a5 a6 a7) (xA a1 a2 a3 a4 a5 a6 a7) r) Q){x:(List ah)×Int×Int×(List (List ah))×Int×Int}(hS:s3 a1 a2 a3 a4 a5 a6 a7 x=some r)(he:sZ a1 a2 a3 a4 a5 a6 a7 x st):ZX d Q ab3 [] st:=by
 refine av he ?_
 unfold s3 at hS
 refine zS (sB 35 hS (fun hS=>?_) (fun hS=>?_))
 ·exact zK (zx hd hQ hS _ (by kernel_rfl))
 ·exact jL (zx hd hQ hS)
def Yv(a1 a2:Int)(a3 a4 a5:Int)(a6:bA)(a7 nU:List ah)(jq:List (List ah)):St:=⟨(up (up (up (up (up u0 10 (.r (.aL 88 0 0 jq.length))) 9 (pt 80)) 5 (pt 48)) 3 (dI a5)) 1 (dI a3)),(up (up (up (up h0 88 ⟨0,some (.own 26 1 ((ir aj).cells jq))⟩) 80 (yY a6)) 48 ⟨0,some (.box ((dI a1)::((dI a2)::((.r (.aL 0 0 0 nU.length)):: []))))⟩) 0 ⟨0,some (.own 87 4 (aj.cells nU))⟩)⟩
def zy(a1 a2:Int)(a3 a4 a5:Int)(a6:bA)(a7 nU:List ah)(jq:List (List ah)):Option ((List ah)):=((f250 (IntKind.i64.wrap (0-a5)) jq a1 a2 a6 nU).bind fun z37=>((bU (decide (z37.2.2.1.length=nU.length))).bind fun MP=>((bU (decide (z37.2.2.2.2.1.length=jq.length))).bind fun Rj=>((b9 (s3 a1 a2 a3 a4 a5 a6 a7) (z37.2.2.1,z37.1,z37.2.1,z37.2.2.2.2.2,(z37.2.2.2.2.2.length:Int),0)).bind fun z64=>(some z64)))))
theorem Uv(hd:7≤d){a1 a2:Int}{a3 a4 a5:Int}{a6:bA}{a7:List ah}{r:(List ah)}(hQ:FQ (aeg r) Q){nU:List ah}{jq:List (List ah)}(hS:zy a1 a2 a3 a4 a5 a6 a7 nU jq=some r): ∀st,au [1,3,5,9,10] [(0,.id 0),(48,.id 48),(80,.id 80),(88,.id 88)] [] st=Yv a1 a2 a3 a4 a5 a6 a7 nU jq→ZX d Q ab4 [] st:=by
 intro st he
 refine av he ?_
 unfold zy at hS
 refine zS (zL 4 (aq hS (fun z37 ap9 hS=>aq hS (fun MP aef hS=>aq hS (fun Rj ap_ hS=>zO (some 31) (.fU 250 [(tm 27),(tm 29),(tm 30)]) (wJ [88,48,80,0] [(.own 26 1 ((ir aj).cells jq)),(.box ((dI a1)::((dI a2)::((.r (.aL 0 0 0 nU.length)):: [])))),(.box ((dI a6.Flags)::((dI a6.dP)::((dI a6.dm):: [])))),(.own 87 4 (aj.cells nU))] (aqc (aV hd rfl) ap9) (tL (ir aj) (e1:=26) (k1:=1) (xs:=jq) (ys:=z37.2.2.2.2.1) (by kernel_rfl) ap_ (aab (cs:=((dI a1)::((dI a2)::((.r (.aL 0 0 0 nU.length)):: [])))) (by kernel_rfl) (aab (cs:=((dI a6.Flags)::((dI a6.dP)::((dI a6.dm):: [])))) (by kernel_rfl) (tL aj (e1:=87) (k1:=4) (xs:=nU) (ys:=z37.2.2.1) (by kernel_rfl) aef qU))))) (zL 1 (zK (zS (zL 3 (zK (bw (aq hS (fun z64 aeb hS=>dF (sZ a1 a2 a3 a4 a5 a6 a7) (xA a1 a2 a3 a4 a5 a6 a7) (fun x st r Q h0 hS hQ=>Uu hd hQ hS h0) (x:=(z37.2.2.1,z37.1,z37.2.1,z37.2.2.2.2.2,(z37.2.2.2.2.2.length:Int),0)) (z:=z64) (by show au _ _ _ _=_;kernel_rfl) aeb ?_)))))))))))))
 intro e bl _ hX
 obtain ⟨rfl,rfl⟩:_∧_:=hX
 exact nK hS hQ
def Yw(a1 a2:Int)(a3 a4 a5:Int)(a6:bA)(a7:List ah)(x:(List ah)×(List (List ah))×Int):St:=⟨(up (up (up (up (up (up (up u0 11 (dI x.2.2)) 10 (.r (.aL 88 0 0 x.2.1.length))) 9 (pt 80)) 5 (pt 48)) 3 (dI a5)) 2 (dI a4)) 1 (dI a3)),(up (up (up (up h0 88 ⟨0,some (.own 26 1 ((ir aj).cells x.2.1))⟩) 80 (yY a6)) 48 ⟨0,some (.box ((dI a1)::((dI a2)::((.r (.aL 0 0 0 x.1.length)):: []))))⟩) 0 ⟨0,some (.own 87 4 (aj.cells x.1))⟩)⟩
def xB(a1 a2:Int)(a3 a4 a5:Int)(a6:bA)(a7:List ah)(x:(List ah)×(List (List ah))×Int)(st:St):Prop:=au [1,2,3,5,9,10,11] [(0,.id 0),(48,.id 48),(80,.id 80),(88,.id 88)] [] st=Yw a1 a2 a3 a4 a5 a6 a7 x
def Ce(a1 a2:Int)(a3 a4 a5:Int)(a6:bA)(a7 yq:List ah)(gQ:List (List ah)):St:=⟨(up (up (up (up (up u0 10 (.r (.aL 88 0 0 gQ.length))) 9 (pt 80)) 5 (pt 48)) 3 (dI a5)) 1 (dI a3)),(up (up (up (up h0 88 ⟨0,some (.own 26 1 ((ir aj).cells gQ))⟩) 80 (yY a6)) 48 ⟨0,some (.box ((dI a1)::((dI a2)::((.r (.aL 0 0 0 yq.length)):: []))))⟩) 0 ⟨0,some (.own 87 4 (aj.cells yq))⟩)⟩
def C3(a1 a2:Int)(a3 a4 a5:Int)(a6:bA)(a7:List ah)(z:((List ah)×(List (List ah))))(e:PX)(st:St):Prop:=e= .exit 0∧st=Ce a1 a2 a3 a4 a5 a6 a7 z.1 z.2
def Cg(a1 a2:Int)(a3 a4 a5:Int)(a6:bA)(a7 EN:List ah)(EO:List (List ah))(K6:Int):St:=⟨(up (up (up (up (up (up (up u0 11 (dI K6)) 10 (.r (.aL 88 0 0 EO.length))) 9 (pt 80)) 5 (pt 48)) 3 (dI a5)) 2 (dI a4)) 1 (dI a3)),(up (up (up (up h0 88 ⟨0,some (.own 26 1 ((ir aj).cells EO))⟩) 80 (yY a6)) 48 ⟨0,some (.box ((dI a1)::((dI a2)::((.r (.aL 0 0 0 EN.length)):: []))))⟩) 0 ⟨0,some (.own 87 4 (aj.cells EN))⟩)⟩
def ud(a1 a2:Int)(a3 a4 a5:Int)(a6:bA)(a7 EN:List ah)(EO:List (List ah))(K6:Int):Option (((List ah)×(List (List ah))×Int)⊕(((List ah)×(List (List ah))))):=((zo a1 a2 K6 EN).bind fun zf=>((bU (decide (zf.1.length=EN.length))).bind fun z66=>((qA zf.1 zf.2.1 zf.2.2).bind fun z67=>((f70 z67).bind fun qD=>((eP 24 EO ([qD]:List (List ah))).bind fun HY=>(some (.inl (zf.1,HY,(IntKind.i64.wrap (K6+1))))))))))
theorem K7(hd:7≤d){a1 a2:Int}{a3 a4 a5:Int}{a6:bA}{a7:List ah}{r:((List ah)×(List (List ah))×Int)⊕(((List ah)×(List (List ah))))}(hQ:FQ (bG (xB a1 a2 a3 a4 a5 a6 a7) (C3 a1 a2 a3 a4 a5 a6 a7) r) Q){EN:List ah}{EO:List (List ah)}{K6:Int}(hS:ud a1 a2 a3 a4 a5 a6 a7 EN EO K6=some r): ∀st,au [1,2,3,5,9,10,11] [(0,.id 0),(48,.id 48),(80,.id 80),(88,.id 88)] [] st=Cg a1 a2 a3 a4 a5 a6 a7 EN EO K6→ZX d Q abZ [] st:=by
 intro st he
 refine av he ?_
 unfold ud at hS
 refine aC (bw (a_ (zL 3 (Xf 23 [0] (fun _ h=>A8 (aV hd rfl) h) hS (fun zf ayE apL hS=>?_)))))
 have aDA:EN.length=zf.1.length:=(of_decide_eq_true (gZ apL)).symm
 try delta Cg
 try delta uT ek kN nt uU jY l8 lB ku lD lF
 try delta bX
 try rw [aDA]
 exact aq hS (fun z67 TK hS=>aq hS (fun qD Om hS=>zO (some 24) (c1 70 23) (iK (args:= [(.r (.aL 0 0 zf.2.1 zf.2.2))]) (by kernel_rfl) (jy (P1 aj (e:=87) (k:=4) (xs:=zf.1) (by kernel_rfl) rfl TK) mF) (Er (aV hd rfl) Om) (by simp only [oy aj (fun _=>rfl),oz,oA,rX,rY,oB,mE,oC,rZ,r_,si,Bool.and_true,Bool.or_true,Bool.and_self]) (by kernel_rfl)) (zO (v:=(.r (.aL 208 1 0 (([qD]:List (List ah)).length)))) (aD:= [(200,⟨2,none⟩),(208,⟨1,some (.own 26 1 ((ir aj).cells ([qD])))⟩)]) (some 25) (.yy 26 1 1 [(1,(.slice .none 0 0))] [(0,(1,(tm 24)))]) ((by kernel_rfl:az _ _ 25 (b8 _) (.yy 26 1 1 [(1,(.slice .none 0 0))] [(0,(1,(.tmp 24)))])=some ((.r (.aL 208 1 0 (([qD]:List (List ah)).length))),[(200,⟨2,none⟩),(208,⟨1,some (.own 26 1 [.sl qD.length (((aj.cells qD).drop (0*aj.k)).take (qD.length*aj.k))])⟩)])).trans (by simp only [cS.P3];rfl)) (aq hS (fun HY TL hS=>zO (v:=(.r (.aL 88 1 0 HY.length))) (aD:= [(88,⟨1,some (.own 26 1 ((ir aj).cells HY))⟩)]) (some 26) (.app 26 1 24 (tm 20) (tm 25)) (eM (ir aj) (b:=88) (g:=0) (n:=EO.length) (xs:=EO) (ys:= [qD]) ((congrArg (fP _) (by kernel_rfl:b8 _ (.tmp 25)=(.r (.aL 208 1 0 (([qD]:List (List ah)).length))))).trans (cZ (ir aj) (e:=26) (k:=1) (xs:= [qD]) (by kernel_rfl) rfl rfl)) rfl (by kernel_rfl) rfl (by kernel_rfl) rfl TL) (lL hS hQ))))))
def qm(a1 a2:Int)(a3 a4 a5:Int)(a6:bA)(a7:List ah)(x:(List ah)×(List (List ah))×Int):Option (((List ah)×(List (List ah))×Int)⊕(((List ah)×(List (List ah))))):=(bif (decide (x.2.2<a4)) then (ud a1 a2 a3 a4 a5 a6 a7 x.1 x.2.1 x.2.2) else (some (.inr (x.1,x.2.1))))
theorem Uw(hd:7≤d){a1 a2:Int}{a3 a4 a5:Int}{a6:bA}{a7:List ah}{r:((List ah)×(List (List ah))×Int)⊕(((List ah)×(List (List ah))))}(hQ:FQ (bG (xB a1 a2 a3 a4 a5 a6 a7) (C3 a1 a2 a3 a4 a5 a6 a7) r) Q){x:(List ah)×(List (List ah))×Int}(hS:qm a1 a2 a3 a4 a5 a6 a7 x=some r)(he:xB a1 a2 a3 a4 a5 a6 a7 x st):ZX d Q ab0 [] st:=by
 refine av he ?_
 unfold qm at hS
 refine aC (zS (zL 2 (sB 17 hS (fun hS=>?_) (fun hS=>?_))))
 ·exact jL (K7 hd hQ hS)
 ·exact zK (zF (av (J:=Ce a1 a2 a3 a4 a5 a6 a7 x.1 x.2.1) (by kernel_rfl) (cX (cV (bg (jw hS hQ))))))
def f239(a1 a2:Int)(a3 a4 a5:Int)(a6:bA)(a7:List ah):Option ((List ah)):=((b9 (qm a1 a2 a3 a4 a5 a6 a7) (a7,[],a3)).bind fun z70=>(zy a1 a2 a3 a4 a5 a6 a7 z70.1 z70.2))
theorem K8{d:Nat}(hd:7≤d){a1 a2:Int}{a3 a4 a5:Int}{a6:bA}{a7:List ah}{r:(List ah)}(hS:f239 a1 a2 a3 a4 a5 a6 a7=some r):bZ ay aX d 239 [(.agg ((dI a1)::((dI a2)::((.r (.aL 0 0 0 a7.length)):: [])))),(dI a3),(dI a4),(dI a5),(BF a6)] [(.own 87 4 (aj.cells a7))]=some ((.bH []),[(.own 87 4 (aj.cells r)),.box []]):=by
 refine cI hd (fun Q hQ=>?_) agE
 unfold f239 at hS
 show ZR _ Q ab5 [] _
 replace hQ:FQ (aeg r) Q:=hQ
 refine zS (zL 2 (zK (zS (zL 1 (zK (aC (zS (zL 2 (zK (bw (aq hS (fun z70 apc hS=>dF (xB a1 a2 a3 a4 a5 a6 a7) (C3 a1 a2 a3 a4 a5 a6 a7) (fun x st r Q h0 hS hQ=>Uw hd hQ hS h0) (x:=(a7,[],a3)) (z:=z70) (by show au _ _ _ _=_;kernel_rfl) apc ?_))))))))))))
 intro e bl _ hX
 obtain ⟨rfl,rfl⟩:_∧_:=hX
 exact jK (Uv hd hQ hS)
/- (*farwriter/screen.terminal).index -/
def aei(r:ag)(e:PX)(st:St):Prop:=aU ab9 4 ((.bH []),[(ek r),(aH r.af),(aJ r.af),(aN r.af)]) e st
def K9(a1 iM:ag):St:=⟨(up (up (up (up u0 1000003 .un) 1000002 .un) 1000001 .un) 0 (pt 0)),(kN iM)⟩
def qo(a1 iM:ag):Option (ag):=((f216 iM []).bind fun z12=>((f239 iM.af.aG.bR iM.af.aG.bW iM.af.ji iM.af.cT 1 z12 iM.af.aG.Cells).bind fun dX=>((bU (decide (dX.length=iM.af.aG.Cells.length))).bind fun dR=>(some (ag.mk ({iM.af with aG:=(bS.mk iM.af.aG.bR iM.af.aG.bW dX)}) iM.sent)))))
theorem ue(hd:8≤d){a1 r:ag}(hQ:FQ (aei r) Q){iM:ag}(hS:qo a1 iM=some r): ∀st,au [0,1000001,1000002,1000003] [(0,.id 0),(1,.id 1),(2,.id 2),(3,.id 3)] [] st=K9 a1 iM→ZX d Q ab7 [.blk 0] st:=by
 intro st he
 refine av he ?_
 unfold qo at hS
 refine cG (cy 16 (aq hS (fun z12 gG hS=>di (some 81) none (c1 216 80) (b_ (zn (aV hd rfl) gG)) (aq hS (fun dX iU hS=>aq hS (fun dR kz hS=>di (some 82) none (.fU 239 [(tm 69),(tm 74),(tm 79),(ki 1),(tm 81)]) (wJ [1] [(aH iM.af)] (K8 (aV hd rfl) iU) (tL aj (e1:=87) (k1:=4) (xs:=iM.af.aG.Cells) (ys:=dX) (by kernel_rfl) kz qU)) ?_))))))
 have aDB:iM.af.aG.Cells.length=dX.length:=(of_decide_eq_true (gZ kz)).symm
 try delta K9
 try delta uT ek kN nt uU jY l8 lB ku lD lF
 try delta bX
 try rw [aDB]
 exact fG (nK hS hQ)
def f213(a1:ag):Option (ag):=(bif (decide (a1.af.Row=(IntKind.i64.wrap (a1.af.cT-1)))) then (bif (decide (a1.af.ji=0)) then ((f214 (ag.mk ({a1.af with eK:=false}) a1.sent) [] 256).bind fun dx=>(bif (!dx) then ((f238 a1.af.aG 0).bind fun f_=>((eP 24 a1.af.bn ([(bF.mk f_)]:List bF)).bind fun gb=>(bif (decide (40<(gb.length:Int))) then ((JO gb 1 (gb.length:Int)).bind fun gS=>(qo a1 (ag.mk ({a1.af with eK:=false,bn:=gS}) a1.sent))) else (qo a1 (ag.mk ({a1.af with eK:=false,bn:=gb}) a1.sent))))) else (qo a1 (ag.mk ({a1.af with eK:=false}) a1.sent)))) else (qo a1 (ag.mk ({a1.af with eK:=false}) a1.sent))) else (bif (decide (a1.af.Row<(IntKind.i64.wrap (a1.af.aG.bW-1)))) then (some (ag.mk ({a1.af with Row:=(IntKind.i64.wrap (a1.af.Row+1)),eK:=false}) a1.sent)) else (some (ag.mk ({a1.af with eK:=false}) a1.sent))))
theorem zA{d:Nat}(hd:8≤d){a1 r:ag}(hS:f213 a1=some r):bZ ay aX d 213 [(pt 0)] [(ek a1),(aH a1.af),(aJ a1.af),(aN a1.af)]=some ((.bH []),[(ek r),(aH r.af),(aJ r.af),(aN r.af)]):=by
 refine cI hd (fun Q hQ=>?_) agj
 unfold f213 at hS
 show ZR _ Q ab8 [] _
 replace hQ:FQ (aei r) Q:=hQ
 refine zS (zL 5 (zK (bw (aC (cG (cy 11 (JY 18 none (.tH .eql (tm 11) (tm 17)) hS (fun hS=>?_) (fun hS=>?_))))))))
 ·refine cy 1 (fG (cq (zT (aC (zS (zL 5 (sB 24 hS (fun hS=>?_) (fun hS=>?_))))))))
  ·refine zL 2 (aq hS (fun dx ju hS=>zG (some 27) 25 true (.call 214 [(tm 26),(ki 256)]) (b_ (sX (aV hd rfl) ju)) (zL 2 (zK (sR 29 hS (fun hS=>?_) (fun hS=>?_))))))
   ·refine zT (aC (cG (cy 11 (aq hS (fun f_ lH hS=>di (some 41) none (.call 238 [(tm 40),(ki 0)]) (iK (args:= [(.agg ((dI a1.af.aG.bR)::((dI a1.af.aG.bW)::((.r (.aL 1 0 0 a1.af.aG.Cells.length)):: [])))),(dI 0)]) (by kernel_rfl) (jy (aj4 (lk (lk (jy (uB aj (e:=87) (k:=4) (xs:=a1.af.aG.Cells) (by kernel_rfl) rfl rfl) mF)))) (lk mF)) (ap0 (aV hd rfl) lH) (by simp only [oy aj (fun _=>rfl),oz,oA,rX,rY,oB,mE,oC,rZ,r_,si,Bool.and_true,Bool.or_true,Bool.and_self]) (by kernel_rfl)) (cy 1 (di (v:=(.r (.aL 352 1 0 (([(bF.mk f_)]:List bF).length)))) (aD:= [(336,⟨2,none⟩),(352,⟨1,some (.own 111 1 (bE.cells ([(bF.mk f_)])))⟩)]) (some 43) none (.yy 111 1 1 [(1,(.slice .none 0 0))] [(0,(1,(tm 42)))]) ((by kernel_rfl:az _ _ 43 (b8 _) (.yy 111 1 1 [(1,(.slice .none 0 0))] [(0,(1,(.tmp 42)))])=some ((.r (.aL 352 1 0 (([(bF.mk f_)]:List bF).length))),[(336,⟨2,none⟩),(352,⟨1,some (.own 111 1 [.sl f_.length (((aj.cells f_).drop (0*aj.k)).take (f_.length*aj.k))])⟩)])).trans (by simp only [cS.P3];rfl)) (aq hS (fun gb nN hS=>di (v:=(.r (.aL 3 1 0 gb.length))) (aD:= [(3,⟨1,some (.own 111 1 (bE.cells gb))⟩)]) (some 44) none (.app 111 1 24 (tm 35) (tm 43)) (eM bE (b:=3) (g:=0) (n:=a1.af.bn.length) (xs:=a1.af.bn) (ys:= [(bF.mk f_)]) ((congrArg (fP _) (by kernel_rfl:b8 _ (.tmp 43)=(.r (.aL 352 1 0 (([(bF.mk f_)]:List bF).length))))).trans (cZ bE (e:=111) (k:=1) (xs:= [(bF.mk f_)]) (by kernel_rfl) rfl rfl)) rfl (by kernel_rfl) rfl (by kernel_rfl) rfl nN) (cy 4 (fG (cq (zS (zL 6 (sB 54 hS (fun hS=>?_) (fun hS=>?_))))))))))))))))
    ·exact zK (zT (a_ (zL 6 (aq hS (fun gS qM hS=>zO (v:=(.r (.aL 3 2 0 gS.length))) (aD:= [(3,⟨2,some (.own 111 1 (bE.cells gS))⟩)]) (some 61) (.I3 111 1 (tm 60) (.some (ki 1)) .none) (atm bE (b:=3) (g:=1) (n:=gb.length) (a:=1) (c:=(gb.length:Int)) (xs:=gb) (by kernel_rfl) rfl (by kernel_rfl) rfl (mD _ (kk:= .i64) (j:=1) (by kernel_rfl)) (CK _) qM) (zL 4 (zK (ue hd hQ hS _ (by kernel_rfl)))))))))
    ·exact jL (ue hd hQ hS)
   ·exact jR (ue hd hQ hS)
  ·exact jL (ue hd hQ hS)
 ·refine cy 1 (fG (cq (zF (aC (cG (cy 12 (JY 96 none (.tH .lss (tm 88) (tm 95)) hS (fun hS=>?_) (fun hS=>?_))))))))
  ·exact cy 1 (fG (nK hS hQ))
  ·exact cy 1 (fG (nK hS hQ))
/- farwriter/grid.ShiftIn$1 -/
def aww(r:ah)(e:PX)(st:St):Prop:=aU acd 0 ((.agg (J5 r)),[]) e st
def f241(a1:bA)(a2:List PD):Option (ah):=((f161 a1).bind fun z2=>(some z2))
theorem aqg{d:Nat}(hd:2≤d){a1:bA}{a2:List PD}{r:ah}(hS:f241 a1 a2=some r):bZ ay aX d 241 [(.cD (k7.enc a1++a2))] []=some ((.agg (J5 r)),[]):=by
 refine cI hd (fun Q hQ=>?_) agG
 unfold f241 at hS
 show ZR _ Q ab_ [] _
 replace hQ:FQ (aww r) Q:=hQ
 exact zS (zL 1 (zK (zS (zL 1 (aq hS (fun z2 hz2 hS=>zC 3 (KX (aV hd rfl) hz2) (nL hS hQ)))))))
/- farwriter/grid.move[farwriter/api.Cell] -/
def ah1(q9:List ah):St:=⟨(up u0 6 (.r (.aL 64 0 0 q9.length))),(up h0 64 ⟨0,some (.own 87 4 (aj.cells q9))⟩)⟩
theorem ah2{q9:List ah}:cN (ah1 q9) 0 Tl.res=some ((.r (.own 0 87 4 q9.length (aj.cells q9))),[]):=by
 exact iP (ids:= []) (ids':= [64]) (l:= [(.r (.aL 64 0 0 q9.length))]) (by kernel_rfl) (by kernel_rfl) (g_ aj (e:=87) (k:=4) (xs:=q9) (by kernel_rfl) rfl rfl rfl rfl)
def awx(r:(List ah))(e:PX)(st:St):Prop:=aU Tl 0 ((.r (.own 0 87 4 r.length (aj.cells r))),[]) e st
def Yx(a1:List ah)(a2:Int)(a3:bA)(a4:List PD)(x:(List ah)×Int):St:=⟨(up (up (up (up (up (up u0 12 (dI x.2)) 11 (dI (a1.length:Int))) 7 (.r (.aL 64 0 0 x.1.length))) 2 (.fn 241 [(.cD (k7.enc a3++a4))])) 1 (dI a2)) 0 (dE aj a1)),(up h0 64 ⟨0,some (.own 87 4 (aj.cells x.1))⟩)⟩
def pE(a1:List ah)(a2:Int)(a3:bA)(a4:List PD)(x:(List ah)×Int)(st:St):Prop:=au [0,1,2,7,11,12] [(64,.id 64)] [] st=Yx a1 a2 a3 a4 x
def Ci(a1:List ah)(a2:Int)(a3:bA)(a4:List PD)(C1:List ah):St:=⟨(up u0 7 (.r (.aL 64 0 0 C1.length))),(up h0 64 ⟨0,some (.own 87 4 (aj.cells C1))⟩)⟩
def s4(a1:List ah)(a2:Int)(a3:bA)(a4:List PD)(z:((List ah)))(e:PX)(st:St):Prop:=e= .exit 0∧st=Ci a1 a2 a3 a4 z
def MU(a1:List ah)(a2:Int)(a3:bA)(a4:List PD)(jk:List ah)(ny:Int):St:=⟨(up (up (up (up (up (up u0 12 (dI ny)) 11 (dI (a1.length:Int))) 7 (.r (.aL 64 0 0 jk.length))) 2 (.fn 241 [(.cD (k7.enc a3++a4))])) 1 (dI a2)) 0 (dE aj a1)),(up h0 64 ⟨0,some (.own 87 4 (aj.cells jk))⟩)⟩
def qp(a1:List ah)(a2:Int)(a3:bA)(a4:List PD)(jk:List ah)(ny:Int):Option (((List ah)×Int)⊕(((List ah)))):=((f241 a3 a4).bind fun dX=>((eP 32 jk ([dX]:List ah)).bind fun dR=>(some (.inl (dR,(IntKind.i64.wrap (ny+1)))))))
theorem zB(hd:3≤d){a1:List ah}{a2:Int}{a3:bA}{a4:List PD}{r:((List ah)×Int)⊕(((List ah)))}(hQ:FQ (bG (pE a1 a2 a3 a4) (s4 a1 a2 a3 a4) r) Q){jk:List ah}{ny:Int}(hS:qp a1 a2 a3 a4 jk ny=some r): ∀st,au [0,1,2,7,11,12] [(64,.id 64)] [] st=MU a1 a2 a3 a4 jk ny→ZX d Q ace [.blk 1,.seq acf] st:=by
 intro st he
 refine av he ?_
 unfold qp at hS
 exact a_ (zL 2 (aq hS (fun dX iU hS=>zO (v:=(.agg (J5 dX))) (aD:= []) (some 35) (.lM (tm 34) []) (ox (f:=241) (cs:= [(.cD (k7.enc a3++a4))]) (by kernel_rfl) (args:= [(.cD (k7.enc a3++a4))]) (l:= [(.cD (k7.enc a3++a4))]) (r:=(.agg (J5 dX))) (by kernel_rfl) (by kernel_rfl) (aqg (aV hd rfl) iU) (by kernel_rfl) (by kernel_rfl) (by kernel_rfl)) (zL 1 (aq hS (fun dR kz hS=>zO (v:=(.r (.aL 64 1 0 dR.length))) (aD:= [(64,⟨1,some (.own 87 4 (aj.cells dR))⟩)]) (some 37) (.app 87 4 32 (tm 33) (tm 36)) (eM aj (b:=64) (g:=0) (n:=jk.length) (xs:=jk) (ys:= [dX]) ((congrArg (fP _) (by kernel_rfl:b8 _ (.tmp 36)=(.r (.aL 296 1 0 (([dX]:List ah).length))))).trans (cZ aj (e:=87) (k:=4) (xs:= [dX]) (by kernel_rfl) rfl rfl)) rfl (by kernel_rfl) rfl (by kernel_rfl) rfl kz) (lL hS hQ)))))))
def MV(a1:List ah)(a2:Int)(a3:bA)(a4:List PD)(iY:List ah)(iF:Int):St:=⟨(up (up (up (up (up (up u0 12 (dI iF)) 11 (dI (a1.length:Int))) 7 (.r (.aL 64 0 0 iY.length))) 2 (.fn 241 [(.cD (k7.enc a3++a4))])) 1 (dI a2)) 0 (dE aj a1)),(up h0 64 ⟨0,some (.own 87 4 (aj.cells iY))⟩)⟩
def uf(a1:List ah)(a2:Int)(a3:bA)(a4:List PD)(iY:List ah)(iF:Int):Option (((List ah)×Int)⊕(((List ah)))):=(bif (decide (0≤(IntKind.i64.wrap (iF-a2)))) then (bif (decide ((IntKind.i64.wrap (iF-a2))<(a1.length:Int))) then ((idx a1 (IntKind.i64.wrap (iF-a2))).bind fun eZ=>((eP 32 iY ([eZ]:List ah)).bind fun dx=>(some (.inl (dx,(IntKind.i64.wrap (iF+1))))))) else (qp a1 a2 a3 a4 iY iF)) else (qp a1 a2 a3 a4 iY iF))
theorem K_(hd:3≤d){a1:List ah}{a2:Int}{a3:bA}{a4:List PD}{r:((List ah)×Int)⊕(((List ah)))}(hQ:FQ (bG (pE a1 a2 a3 a4) (s4 a1 a2 a3 a4) r) Q){iY:List ah}{iF:Int}(hS:uf a1 a2 a3 a4 iY iF=some r): ∀st,au [0,1,2,7,11,12] [(64,.id 64)] [] st=MV a1 a2 a3 a4 iY iF→ZX d Q acg [] st:=by
 intro st he
 refine av he ?_
 unfold uf at hS
 refine aC (bw (zS (zL 2 (zK (zS (zL 4 (zK (zS (zL 1 (sB 19 hS (fun hS=>?_) (fun hS=>?_)))))))))))
 ·refine zL 4 (sB 24 hS (fun hS=>?_) (fun hS=>?_))
  ·exact zL 1 (zK (zT (a_ (zL 3 (aq hS (fun eZ lG hS=>zO (v:=(.cD (aj.enc eZ++(aj.cells (a1.drop (((IntKind.i64.wrap (iF-a2)):Int).toNat+1)))))) (aD:= []) (some 29) (.jc 87 4 (tm 27) (tm 28)) (eY aj (kk:= .i64) (xs:=a1) (j:=(IntKind.i64.wrap (iF-a2))) (by kernel_rfl) (by kernel_rfl) lG rfl (by intro h;cases h)) (zL 2 (aq hS (fun dx ju hS=>zO (v:=(.r (.aL 64 1 0 dx.length))) (aD:= [(64,⟨1,some (.own 87 4 (aj.cells dx))⟩)]) (some 32) (.app 87 4 32 (tm 26) (tm 31)) (eM aj (b:=64) (g:=0) (n:=iY.length) (xs:=iY) (ys:= [eZ]) ((congrArg (fP _) (by kernel_rfl:b8 _ (.tmp 31)=(.r (.aL 256 1 0 (([eZ]:List ah).length))))).trans (cZ aj (e:=87) (k:=4) (xs:= [eZ]) (by kernel_rfl) rfl rfl)) rfl (by kernel_rfl) rfl (by kernel_rfl) rfl ju) (lL hS hQ))))))))))
  ·exact zL 1 (zK (zF (zB hd hQ hS _ (by kernel_rfl))))
 ·exact jL (zB hd hQ hS)
def MW(a1:List ah)(a2:Int)(a3:bA)(a4:List PD)(iE:List ah)(jG:Int)(fS:Bool):St:=⟨(up (up (up (up (up (up (up u0 13 (dB fS)) 12 (dI jG)) 11 (dI (a1.length:Int))) 7 (.r (.aL 64 0 0 iE.length))) 2 (.fn 241 [(.cD (k7.enc a3++a4))])) 1 (dI a2)) 0 (dE aj a1)),(up h0 64 ⟨0,some (.own 87 4 (aj.cells iE))⟩)⟩
def nc(a1:List ah)(a2:Int)(a3:bA)(a4:List PD)(iE:List ah)(jG:Int)(fS:Bool):Option (((List ah)×Int)⊕(((List ah)))):=(bif fS then (uf a1 a2 a3 a4 iE jG) else (some (.inr iE)))
theorem zD(hd:3≤d){a1:List ah}{a2:Int}{a3:bA}{a4:List PD}{r:((List ah)×Int)⊕(((List ah)))}(hQ:FQ (bG (pE a1 a2 a3 a4) (s4 a1 a2 a3 a4) r) Q){iE:List ah}{jG:Int}{fS:Bool}(hS:nc a1 a2 a3 a4 iE jG fS=some r): ∀st,au [0,1,2,7,11,12,13] [(64,.id 64)] [] st=MW a1 a2 a3 a4 iE jG fS→ZX d Q ach [] st:=by
 intro st he
 refine av he ?_
 unfold nc at hS
 refine aC (sR 13 hS (fun hS=>?_) (fun hS=>?_))
 ·exact jR (K_ hd hQ hS)
 ·exact zF (av (J:=Ci a1 a2 a3 a4 iE) (by kernel_rfl) (cX (cV (bg (jw hS hQ)))))
def nV(a1:List ah)(a2:Int)(a3:bA)(a4:List PD)(x:(List ah)×Int):Option (((List ah)×Int)⊕(((List ah)))):=(bif (decide (x.2<(a1.length:Int))) then (nc a1 a2 a3 a4 x.1 x.2 true) else (nc a1 a2 a3 a4 x.1 x.2 false))
theorem Ux(hd:3≤d){a1:List ah}{a2:Int}{a3:bA}{a4:List PD}{r:((List ah)×Int)⊕(((List ah)))}(hQ:FQ (bG (pE a1 a2 a3 a4) (s4 a1 a2 a3 a4) r) Q){x:(List ah)×Int}(hS:nV a1 a2 a3 a4 x=some r)(he:pE a1 a2 a3 a4 x st):ZX d Q aci [] st:=by
 refine av he ?_
 unfold nV at hS
 refine zS (sB 13 hS (fun hS=>?_) (fun hS=>?_))
 ·exact zK (zD hd hQ hS _ (by kernel_rfl))
 ·exact jL (zD hd hQ hS)
def f240(a1:List ah)(a2:Int)(a3:bA)(a4:List PD):Option ((List ah)):=((b9 (nV a1 a2 a3 a4) ([],0)).bind fun f_=>(some f_))
theorem aqh{d:Nat}(hd:3≤d){a1:List ah}{a2:Int}{a3:bA}{a4:List PD}{r:(List ah)}(hS:f240 a1 a2 a3 a4=some r):bZ ay aX d 240 [(dE aj a1),(dI a2),(.fn 241 [(.cD (k7.enc a3++a4))])] []=some ((.r (.own 0 87 4 r.length (aj.cells r))),[]):=by
 refine cI hd (fun Q hQ=>?_) agF
 unfold f240 at hS
 show ZR _ Q acj [] _
 replace hQ:FQ (awx r) Q:=hQ
 refine zS (zL 1 (zK (zS (zL 1 (zK (aC (zS (zL 3 (zK (bw (aq hS (fun f_ lH hS=>dF (pE a1 a2 a3 a4) (s4 a1 a2 a3 a4) (fun x st r Q h0 hS hQ=>Ux hd hQ hS h0) (x:=([],0)) (z:=f_) (by show au _ _ _ _=_;kernel_rfl) lH ?_))))))))))))
 intro e bl _ hX
 obtain ⟨rfl,rfl⟩:_∧_:=hX
 exact kq (cq (zS (zL 2 (zK (cL (bg (dW hS hQ (fR ah2))))))))
/- farwriter/grid.repair -/
def awy(r:(List ah))(e:PX)(st:St):Prop:=aU acp 1 ((.bH []),[(.own 87 4 (aj.cells r)),.box []]) e st
def Yy(a1 a2:Nat)(a3:List ah)(x:(List ah)×(List ah)×Int):St:=⟨(up (up (up (up u0 8 (dI x.2.2)) 7 (dI (a2:Int))) 2 (.r (.aL 48 0 0 x.2.1.length))) 0 (.r (.aL 0 0 a1 a2))),(up (up h0 48 ⟨0,some (.own 87 4 (aj.cells x.2.1))⟩) 0 ⟨0,some (.own 87 4 (aj.cells x.1))⟩)⟩
def s6(a1 a2:Nat)(a3:List ah)(x:(List ah)×(List ah)×Int)(st:St):Prop:=au [0,2,7,8] [(0,.id 0),(48,.id 48)] [] st=Yy a1 a2 a3 x
def Cj(a1 a2:Nat)(a3 ny:List ah):St:=⟨u0,(up h0 0 ⟨0,some (.own 87 4 (aj.cells ny))⟩)⟩
def xC(a1 a2:Nat)(a3:List ah)(z:((List ah)))(e:PX)(st:St):Prop:=e= .exit 0∧st=Cj a1 a2 a3 z
def Ck(a1 a2:Nat)(a3 gf jH:List ah)(iX:Int):St:=⟨(up (up (up (up u0 8 (dI iX)) 7 (dI (a2:Int))) 2 (.r (.aL 48 0 0 jH.length))) 0 (.r (.aL 0 0 a1 a2))),(up (up h0 48 ⟨0,some (.own 87 4 (aj.cells jH))⟩) 0 ⟨0,some (.own 87 4 (aj.cells gf))⟩)⟩
def ug(a1 a2:Nat)(a3 gf jH:List ah)(iX:Int):Option (((List ah)×(List ah)×Int)⊕(((List ah)))):=((f91 jH iX).bind fun Eg=>(bif Eg then ((jO iX jH.length).bind fun m48=>((jH[m48]?).bind fun z49=>((f161 z49.bP).bind fun qY=>((jO iX a2).bind fun Yz=>((gf[(a1+Yz)]?).bind fun Mm=>((some (gf.set (a1+Yz) qY)).bind fun z53=>(some (.inl (z53,jH,(IntKind.i64.wrap (iX+1))))))))))) else (some (.inl (gf,jH,(IntKind.i64.wrap (iX+1)))))))
theorem La(hd:4≤d){a1 a2:Nat}{a3:List ah}{r:((List ah)×(List ah)×Int)⊕(((List ah)))}(hQ:FQ (bG (s6 a1 a2 a3) (xC a1 a2 a3) r) Q){gf jH:List ah}{iX:Int}(hS:ug a1 a2 a3 gf jH iX=some r): ∀st,au [0,2,7,8] [(0,.id 0),(48,.id 48)] [] st=Ck a1 a2 a3 gf jH iX→ZX d Q ack [] st:=by
 intro st he
 refine av he ?_
 unfold ug at hS
 refine aC (bw (zS (zL 2 (zK (zS (zL 2 (aq hS (fun Eg Kz hS=>zO (some 13) (.call 91 [(tm 11),(tm 12)]) (iK (args:= [(.r (.aL 48 0 0 jH.length)),(dI iX)]) (by kernel_rfl) (jy (uB aj (e:=87) (k:=4) (xs:=jH) (by kernel_rfl) rfl rfl) (lk mF)) (QD (aV hd rfl) Kz) (by kernel_rfl) (by kernel_rfl)) (zK (sR 13 hS (fun hS=>?_) (fun hS=>?_)))))))))))
 ·refine zT (a_ (zL 4 (aq hS (fun m48 aDC hS=>zO (v:=(.r (.ptr 48 0 ((0+m48)*4)))) (aD:= []) (some 18) (.jc 87 4 (tm 16) (tm 17)) (Au (kk:= .i64) (b:=48) (g:=0) (l:=0) (n:=jH.length) (j:=iX) (cs:=aj.cells jH) (by kernel_rfl) (by kernel_rfl) (by kernel_rfl) aDC) (zL 1 (aq hS (fun z49 TB hS=>zO (v:=(BF z49.bP)) (aD:= []) (some 20) (lt 3 19) (FO aj (b:=48) (g:=0) (o:=(0+m48)*4+1) (e:=87) (k:=4) (m:=m48) (fo:=1) (xs:=jH) (by kernel_rfl) (by kernel_rfl) (by rw [Nat.zero_add];rfl) TB (by kernel_rfl) (by kernel_rfl) (by kernel_rfl)) (aq hS (fun qY Oc hS=>zC 21 (KX (aV hd rfl) Oc) (aq hS (fun Yz aDD hS=>zO (v:=(.r (.ptr 0 0 ((a1+Yz)*4)))) (aD:= []) (some 22) (.jc 87 4 (tm 14) (tm 15)) (Au (kk:= .i64) (b:=0) (g:=0) (l:=a1) (n:=a2) (j:=iX) (cs:=aj.cells gf) (by kernel_rfl) (by kernel_rfl) (by kernel_rfl) aDD) (aq hS (fun Mm TE hS=>aq hS (fun z53 TF hS=>zO (v:= .un) (aD:= [(0,⟨0,some (.own 87 4 (aj.cells (gf.set (a1+Yz) qY)))⟩)]) none (.store 4 (tm 22) (tm 21)) (CG aj (b:=0) (g:=0) (o:=(a1+Yz)*4) (e:=87) (k:=4) (m:=(a1+Yz)) (fo:=0) (xs:=gf) (z:=Mm) (z':=qY) (by kernel_rfl) (new:=(J5 qY)) (ds:= [.int .i64 qY.eB,.int .i64 qY.bP.Flags,.int .i64 qY.bP.dP,.int .i64 qY.bP.dm]) (by kernel_rfl) (by kernel_rfl) (by kernel_rfl) rfl TE (by kernel_rfl) (by kernel_rfl) (by kernel_rfl)) ?_))))))))))))))
  have ayJ:=Option.some.inj TF
  have aDE:gf.length=z53.length:=by rw [←ayJ,List.length_set]
  rw [ayJ]
  try delta Ck
  try delta uT ek kN nt uU jY l8 lB ku lD lF
  try delta bX
  try rw [aDE]
  exact lL hS hQ
 ·exact lR hS hQ
def MX(a1 a2:Nat)(a3 jq ij:List ah)(kS:Int)(fj:Bool):St:=⟨(up (up (up (up (up u0 9 (dB fj)) 8 (dI kS)) 7 (dI (a2:Int))) 2 (.r (.aL 48 0 0 ij.length))) 0 (.r (.aL 0 0 a1 a2))),(up (up h0 48 ⟨0,some (.own 87 4 (aj.cells ij))⟩) 0 ⟨0,some (.own 87 4 (aj.cells jq))⟩)⟩
def nh(a1 a2:Nat)(a3 jq ij:List ah)(kS:Int)(fj:Bool):Option (((List ah)×(List ah)×Int)⊕(((List ah)))):=(bif fj then (ug a1 a2 a3 jq ij kS) else (some (.inr jq)))
theorem zH(hd:4≤d){a1 a2:Nat}{a3:List ah}{r:((List ah)×(List ah)×Int)⊕(((List ah)))}(hQ:FQ (bG (s6 a1 a2 a3) (xC a1 a2 a3) r) Q){jq ij:List ah}{kS:Int}{fj:Bool}(hS:nh a1 a2 a3 jq ij kS fj=some r): ∀st,au [0,2,7,8,9] [(0,.id 0),(48,.id 48)] [] st=MX a1 a2 a3 jq ij kS fj→ZX d Q acm [] st:=by
 intro st he
 refine av he ?_
 unfold nh at hS
 refine aC (sR 9 hS (fun hS=>?_) (fun hS=>?_))
 ·exact jR (La hd hQ hS)
 ·exact zF (av (J:=Cj a1 a2 a3 jq) (by kernel_rfl) (cX (cV (bg (jw hS hQ)))))
def vN(a1 a2:Nat)(a3:List ah)(x:(List ah)×(List ah)×Int):Option (((List ah)×(List ah)×Int)⊕(((List ah)))):=(bif (decide (x.2.2<(a2:Int))) then (nh a1 a2 a3 x.1 x.2.1 x.2.2 true) else (nh a1 a2 a3 x.1 x.2.1 x.2.2 false))
theorem Uy(hd:4≤d){a1 a2:Nat}{a3:List ah}{r:((List ah)×(List ah)×Int)⊕(((List ah)))}(hQ:FQ (bG (s6 a1 a2 a3) (xC a1 a2 a3) r) Q){x:(List ah)×(List ah)×Int}(hS:vN a1 a2 a3 x=some r)(he:s6 a1 a2 a3 x st):ZX d Q acn [] st:=by
 refine av he ?_
 unfold vN at hS
 refine zS (sB 9 hS (fun hS=>?_) (fun hS=>?_))
 ·exact zK (zH hd hQ hS _ (by kernel_rfl))
 ·exact jL (zH hd hQ hS)
def f116(a1 a2:Nat)(a3:List ah):Option ((List ah)):=((qA a3 a1 a2).bind fun z24=>((f70 z24).bind fun z25=>((b9 (vN a1 a2 a3) (a3,z25,0)).bind fun FY=>(some FY))))
theorem Lb{d:Nat}(hd:4≤d){a1 a2:Nat}{a3:List ah}{r:(List ah)}(hS:f116 a1 a2 a3=some r):bZ ay aX d 116 [(.r (.aL 0 0 a1 a2))] [(.own 87 4 (aj.cells a3))]=some ((.bH []),[(.own 87 4 (aj.cells r)),.box []]):=by
 refine cI hd (fun Q hQ=>?_) afP
 unfold f116 at hS
 show ZR _ Q aco [] _
 replace hQ:FQ (awy r) Q:=hQ
 refine zS (zL 1 (aq hS (fun z24 qO hS=>aq hS (fun z25 vB hS=>zO (some 5) (c1 70 4) (iK (args:= [(.r (.aL 0 0 a1 a2))]) (by kernel_rfl) (jy (P1 aj (e:=87) (k:=4) (xs:=a3) (by kernel_rfl) rfl qO) mF) (Er (aV hd rfl) vB) (by simp only [oy aj (fun _=>rfl),oz,oA,rX,rY,oB,mE,oC,rZ,r_,si,Bool.and_true,Bool.or_true,Bool.and_self]) (by kernel_rfl)) (zL 1 (zK (zS (zL 3 (zK (bw (aq hS (fun FY Kr hS=>dF (s6 a1 a2 a3) (xC a1 a2 a3) (fun x st r Q h0 hS hQ=>Uy hd hQ hS h0) (x:=(a3,z25,0)) (z:=FY) (by show au _ _ _ _=_;kernel_rfl) Kr ?_))))))))))))
 intro e bl _ hX
 obtain ⟨rfl,rfl⟩:_∧_:=hX
 exact nK hS hQ
/- farwriter/grid.ShiftIn -/
def awz(r:(List ah))(e:PX)(st:St):Prop:=aU acr 1 ((.bH []),[(.own 87 4 (aj.cells r)),.box []]) e st
def f215(a1 a2:Int)(a3 a4:Int)(a5 a6:Int)(a7:bA)(a8:List ah):Option ((List ah)):=((zo a1 a2 a3 a8).bind fun cM=>((bU (decide (cM.1.length=a8.length))).bind fun z12=>((bU (decide (0≤a4)&&decide (a4≤a5)&&decide (a5≤(cM.2.2:Int)))).bind fun dX=>((bU (decide (0≤a4)&&decide (a4≤a5)&&decide (a5≤(cM.2.2:Int)))).bind fun dR=>((qA cM.1 (cM.2.1+(a4:Int).toNat) ((a5:Int).toNat-(a4:Int).toNat)).bind fun eZ=>((f240 eZ a6 a7 []).bind fun dx=>((bU (decide ((cM.2.1+(a4:Int).toNat)+((a5:Int).toNat-(a4:Int).toNat)≤cM.1.length))).bind fun f_=>((some (mR cM.1 (cM.2.1+(a4:Int).toNat) ((a5:Int).toNat-(a4:Int).toNat) dx)).bind fun gb=>((f116 cM.2.1 cM.2.2 gb).bind fun gS=>((bU (decide (gS.length=gb.length))).bind fun z20=>(some gS)))))))))))
theorem Uz{d:Nat}(hd:5≤d){a1 a2:Int}{a3 a4:Int}{a5 a6:Int}{a7:bA}{a8:List ah}{r:(List ah)}(hS:f215 a1 a2 a3 a4 a5 a6 a7 a8=some r):bZ ay aX d 215 [(.agg ((dI a1)::((dI a2)::((.r (.aL 0 0 0 a8.length)):: [])))),(dI a3),(dI a4),(dI a5),(dI a6),(BF a7)] [(.own 87 4 (aj.cells a8))]=some ((.bH []),[(.own 87 4 (aj.cells r)),.box []]):=by
 refine cI hd (fun Q hQ=>?_) agl
 unfold f215 at hS
 show ZR _ Q acq [] _
 replace hQ:FQ (awz r) Q:=hQ
 refine zS (zL 2 (zK (zS (zL 2 (Xf 15 [0] (fun _ h=>A8 (aV hd rfl) h) hS (fun cM jN gG hS=>?_))))))
 have aqj:a8.length=cM.1.length:=(of_decide_eq_true (gZ gG)).symm
 try delta uT ek kN nt uU jY l8 lB ku lD lF
 try delta bX
 try rw [aqj]
 refine zL 1 (zK (aC (cG (cy 3 (aq hS (fun dX iU hS=>di (v:=(.r (.aL 0 0 (cM.2.1+(a4:Int).toNat) ((a5:Int).toNat-(a4:Int).toNat)))) (aD:= []) (some 19) none (.wq 87 4 (tm 16) (.some (tm 17)) (.some (tm 18))) (DG (b:=0) (g:=0) (e:=87) (a:=a4) (c:=a5) (l:=cM.2.1) (n:=cM.2.2) (l':=(cM.2.1+(a4:Int).toNat)) (n':=((a5:Int).toNat-(a4:Int).toNat)) (cs:=aj.cells cM.1) (by kernel_rfl) (by kernel_rfl) (mD _ (kk:= .i64) (j:=a4) (by kernel_rfl)) (mD _ (kk:= .i64) (j:=a5) (by kernel_rfl)) iU (by simp) rfl) (cy 3 (aq hS (fun dR kz hS=>di (v:=(.r (.aL 0 0 (cM.2.1+(a4:Int).toNat) ((a5:Int).toNat-(a4:Int).toNat)))) (aD:= []) (some 23) none (.wq 87 4 (tm 20) (.some (tm 21)) (.some (tm 22))) (DG (b:=0) (g:=0) (e:=87) (a:=a4) (c:=a5) (l:=cM.2.1) (n:=cM.2.2) (l':=(cM.2.1+(a4:Int).toNat)) (n':=((a5:Int).toNat-(a4:Int).toNat)) (cs:=aj.cells cM.1) (by kernel_rfl) (by kernel_rfl) (mD _ (kk:= .i64) (j:=a4) (by kernel_rfl)) (mD _ (kk:= .i64) (j:=a5) (by kernel_rfl)) kz (by simp) rfl) (cy 2 (aq hS (fun eZ lG hS=>aq hS (fun dx ju hS=>di (some 26) none (.call 240 [(tm 23),(tm 24),(tm 25)]) (iK (args:= [(.r (.aL 0 0 (cM.2.1+(a4:Int).toNat) ((a5:Int).toNat-(a4:Int).toNat))),(dI a6),(.fn 241 [(.r (.ptr 96 1 0))])]) (by kernel_rfl) (jy (P1 aj (e:=87) (k:=4) (xs:=cM.1) (by kernel_rfl) rfl lG) (lk (lk mF))) (aqh (aV hd rfl) ju) (by simp only [oy aj (fun _=>rfl),oz,oA,rX,rY,oB,mE,oC,rZ,r_,si,Bool.and_true,Bool.or_true,Bool.and_self]) (by kernel_rfl)) (aq hS (fun f_ lH hS=>aq hS (fun gb nN hS=>di (v:=(dI ((min dx.length ((a5:Int).toNat-(a4:Int).toNat):Nat):Int))) (aD:= [(0,⟨0,some (.own 87 4 (aj.cells (mR cM.1 (cM.2.1+(a4:Int).toNat) ((a5:Int).toNat-(a4:Int).toNat) dx)))⟩)]) (some 27) none (.Di 4 (tm 19) (tm 26)) (Ii aj (b:=0) (g:=0) (l:=(cM.2.1+(a4:Int).toNat)) (n:=((a5:Int).toNat-(a4:Int).toNat)) (e:=87) (xs:=cM.1) (ys:=dx) (by kernel_rfl) (by kernel_rfl) rfl ((congrArg (fP _) (by kernel_rfl:b8 _ (.tmp 26)=(.r (.aL 216 1 0 dx.length)))).trans (cZ aj (e:=87) (k:=4) (xs:=dx) (by kernel_rfl) rfl rfl)) lH) ?_))))))))))))))))
 have ayK:=Option.some.inj nN
 have aDF:cM.1.length=gb.length:=by rw [←ayK];exact (Aw (of_decide_eq_true (gZ lH))).symm
 rw [ayK]
 try delta uT ek kN nt uU jY l8 lB ku lD lF
 try delta bX
 try rw [aDF]
 refine fG (cq (a_ (zL 1 (Xf 29 [0] (fun _ h=>Lb (aV hd rfl) h) hS (fun gS qM qN hS=>?_)))))
 have aDG:gb.length=gS.length:=(of_decide_eq_true (gZ qN)).symm
 try delta uT ek kN nt uU jY l8 lB ku lD lF
 try delta bX
 try rw [aDG]
 exact nL hS hQ
/- farwriter/grid.PutIn -/
def awA(r:(List ah))(e:PX)(st:St):Prop:=aU acu 1 ((.bH []),[(.own 87 4 (aj.cells r)),.box []]) e st
def f217(a1 a2:Int)(a3 a4 a5:Int)(a6:bA)(a7:List ah):Option ((List ah)):=((zo a1 a2 a3 a7).bind fun z12=>((bU (decide (z12.1.length=a7.length))).bind fun dX=>((jO a4 z12.2.2).bind fun m14=>((z12.1[(z12.2.1+m14)]?).bind fun eZ=>((some (z12.1.set (z12.2.1+m14) (ah.mk a5 a6))).bind fun dx=>((f90 a5).bind fun gb=>(bif (decide (gb=2)) then ((jO (IntKind.i64.wrap (a4+1)) z12.2.2).bind fun m19=>((dx[(z12.2.1+m19)]?).bind fun z20=>((some (dx.set (z12.2.1+m19) (ah.mk 0 a6))).bind fun z21=>((f116 z12.2.1 z12.2.2 z21).bind fun z22=>((bU (decide (z22.length=z21.length))).bind fun z23=>(some z22)))))) else ((f116 z12.2.1 z12.2.2 dx).bind fun z24=>((bU (decide (z24.length=dx.length))).bind fun z25=>(some z24))))))))))
theorem aqk{d:Nat}(hd:5≤d){a1 a2:Int}{a3 a4 a5:Int}{a6:bA}{a7:List ah}{r:(List ah)}(hS:f217 a1 a2 a3 a4 a5 a6 a7=some r):bZ ay aX d 217 [(.agg ((dI a1)::((dI a2)::((.r (.aL 0 0 0 a7.length)):: [])))),(dI a3),(dI a4),(dI a5),(BF a6)] [(.own 87 4 (aj.cells a7))]=some ((.bH []),[(.own 87 4 (aj.cells r)),.box []]):=by
 refine cI hd (fun Q hQ=>?_) agn
 unfold f217 at hS
 show ZR _ Q acs [] _
 replace hQ:FQ (awA r) Q:=hQ
 refine zS (zL 2 (zK (zS (zL 2 (Xf 13 [0] (fun _ h=>A8 (aV hd rfl) h) hS (fun z12 gG iU hS=>?_))))))
 have aDH:a7.length=z12.1.length:=(of_decide_eq_true (gZ iU)).symm
 try delta uT ek kN nt uU jY l8 lB ku lD lF
 try delta bX
 try rw [aDH]
 refine zL 1 (zK (zS (zL 5 (aq hS (fun m14 aDI hS=>zO (v:=(.r (.ptr 0 0 ((z12.2.1+m14)*4)))) (aD:= []) (some 19) (.jc 87 4 (tm 14) (tm 15)) (Au (kk:= .i64) (b:=0) (g:=0) (l:=z12.2.1) (n:=z12.2.2) (j:=a4) (cs:=aj.cells z12.1) (by kernel_rfl) (by kernel_rfl) (by kernel_rfl) aDI) (aq hS (fun eZ lG hS=>aq hS (fun dx ju hS=>zO (v:= .un) (aD:= [(0,⟨0,some (.own 87 4 (aj.cells (z12.1.set (z12.2.1+m14) (ah.mk a5 a6))))⟩)]) none (.store 4 (tm 19) (tm 18)) (CG aj (b:=0) (g:=0) (o:=(z12.2.1+m14)*4) (e:=87) (k:=4) (m:=(z12.2.1+m14)) (fo:=0) (xs:=z12.1) (z:=eZ) (z':=(ah.mk a5 a6)) (by kernel_rfl) (new:=((dI a5)::((dI a6.Flags)::((dI a6.dP)::((dI a6.dm):: []))))) (ds:= [.int .i64 a5,.int .i64 a6.Flags,.int .i64 a6.dP,.int .i64 a6.dm]) (by kernel_rfl) (by kernel_rfl) (by kernel_rfl) rfl lG (by kernel_rfl) (by kernel_rfl) (by kernel_rfl)) ?_))))))))
 have ayL:=Option.some.inj ju
 have aDJ:z12.1.length=dx.length:=by rw [←ayL,List.length_set]
 rw [ayL]
 try delta uT ek kN nt uU jY l8 lB ku lD lF
 try delta bX
 try rw [aDJ]
 refine zK (aC (zS (zL 1 (aq hS (fun gb nN hS=>zC 21 (Eb (aV hd rfl) nN) (sB 22 hS (fun hS=>?_) (fun hS=>?_)))))))
 ·refine zK (zT (a_ (zL 5 (aq hS (fun m19 aDK hS=>zO (v:=(.r (.ptr 0 0 ((z12.2.1+m19)*4)))) (aD:= []) (some 28) (.jc 87 4 (tm 23) (tm 25)) (Au (kk:= .i64) (b:=0) (g:=0) (l:=z12.2.1) (n:=z12.2.2) (j:=(IntKind.i64.wrap (a4+1))) (cs:=aj.cells dx) (by kernel_rfl) (by kernel_rfl) (by kernel_rfl) aDK) (aq hS (fun z20 qN hS=>aq hS (fun z21 p_ hS=>zO (v:= .un) (aD:= [(0,⟨0,some (.own 87 4 (aj.cells (dx.set (z12.2.1+m19) (ah.mk 0 a6))))⟩)]) none (.store 4 (tm 28) (tm 27)) (CG aj (b:=0) (g:=0) (o:=(z12.2.1+m19)*4) (e:=87) (k:=4) (m:=(z12.2.1+m19)) (fo:=0) (xs:=dx) (z:=z20) (z':=(ah.mk 0 a6)) (by kernel_rfl) (new:=((dI 0)::((dI a6.Flags)::((dI a6.dP)::((dI a6.dm):: []))))) (ds:= [.int .i64 0,.int .i64 a6.Flags,.int .i64 a6.dP,.int .i64 a6.dm]) (by kernel_rfl) (by kernel_rfl) (by kernel_rfl) rfl qN (by kernel_rfl) (by kernel_rfl) (by kernel_rfl)) ?_))))))))
  have ayM:=Option.some.inj p_
  have aDL:dx.length=z21.length:=by rw [←ayM,List.length_set]
  rw [ayM]
  try delta uT ek kN nt uU jY l8 lB ku lD lF
  try delta bX
  try rw [aDL]
  refine zK (a_ (zL 1 (Xf 30 [0] (fun _ h=>Lb (aV hd rfl) h) hS (fun z22 GJ y5 hS=>?_))))
  have aDM:z21.length=z22.length:=(of_decide_eq_true (gZ y5)).symm
  try delta uT ek kN nt uU jY l8 lB ku lD lF
  try delta bX
  try rw [aDM]
  exact nL hS hQ
 ·refine zK (zF (fV (cq (a_ (zL 1 (Xf 30 [0] (fun _ h=>Lb (aV hd rfl) h) hS (fun z24 qO vB hS=>?_)))))))
  have aDN:dx.length=z24.length:=(of_decide_eq_true (gZ vB)).symm
  try delta uT ek kN nt uU jY l8 lB ku lD lF
  try delta bX
  try rw [aDN]
  exact nL hS hQ
end
end Go.Proofs.YtimbfadnabfabaaGreatDoor.Pm
