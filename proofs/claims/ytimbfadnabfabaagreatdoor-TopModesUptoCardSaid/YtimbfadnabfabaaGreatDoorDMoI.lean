/- Typed functions, and that the codes are these. Printed by dec.py. -/
import Derived.Test.YtimbfadnabfabaaGreatDoorDMoH
namespace Go.Proofs.YtimbfadnabfabaaGreatDoor.Pm
noncomputable section
set_option maxRecDepth 1000000
set_option maxHeartbeats 20000000
set_option linter.unusedVariables false
set_option linter.unusedSimpArgs false
variable {d : Nat} {Q : PQ} {st : St}
/- farwriter/page.of -/
def acv(r:Int)(e:PX)(st:St):Prop:=aV aau 0 ((dI r),[]) e st
def XP(a1:Int)(a2:UInt8):St:=⟨(up (up (up u0 5 (pt 48)) 1 (.d (.int .u8 (a2.toNat:Int)))) 0 (dI a1)),(up h0 48 ⟨0,some (.box ((eI.row 32 (fun i=>([160,9670,9618,9225,9228,9229,9226,176,177,9252,9227,9496,9488,9484,9492,9532,9146,9147,9472,9148,9149,9500,9508,9524,9516,9474,8804,8805,960,8800,163,183]:List Int).getD i 0))++ []))⟩)⟩
def xZ(a1:Int)(a2:UInt8):Option (Int):=(bif (decide (a1=3)) then (bif (decide (95≤(a2.toNat:Int))) then (bif (decide ((a2.toNat:Int)≤126)) then ((jG ((a2-(95:UInt8)).toNat:Int) 32).bind fun m2=>(some (([160,9670,9618,9225,9228,9229,9226,176,177,9252,9227,9496,9488,9484,9492,9532,9146,9147,9472,9148,9149,9500,9508,9524,9516,9474,8804,8805,960,8800,163,183]:List Int).getD m2 0))) else (some (a2.toNat:Int))) else (some (a2.toNat:Int))) else (some (a2.toNat:Int)))
theorem Gb(hd:1≤d){a1:Int}{a2:UInt8}{r:Int}(hQ:FQ (acv r) Q)(hS:xZ a1 a2=some r): ∀st,au [0,1,5] [(48,.id 48)] [] st=XP a1 a2→ZX d Q aas [.blk 0,.seq aat] st:=by
 intro st he
 refine ay he (zS (zL 1 (sB 24 hS (fun hS=>?_) (fun hS=>?_))))
 ·refine zL 2 (sB 27 hS (fun hS=>?_) (fun hS=>?_))
  ·refine zL 3 (sB 31 hS (fun hS=>?_) (fun hS=>?_))
   ·exact zL 2 (zK (zT (zS (zL 1 (zO (v:=(.d (.int .u8 ((a2-(95:UInt8)).toNat:Int)))) (aD:= []) (some 34) (.qK .sub (tm 33) (.const (.int .u8 95))) (iW (kk:= .u8) (a:=(a2.toNat:Int)) (c:=((95:UInt8).toNat:Int)) (by kernel_rfl) (by kernel_rfl) (Sj a2 (95:UInt8))) (aq hS (fun m2 TB hS=>zO (v:=(.r (.ptr 48 0 (0+m2*1)))) (aD:= []) (some 35) (.sN 32 1 (tm 5) (tm 34)) (oD (kk:= .u8) (b:=48) (g:=0) (o:=0) (j:=((a2-(95:UInt8)).toNat:Int)) (by kernel_rfl) (by kernel_rfl) TB) (zO (v:=(dI (([160,9670,9618,9225,9228,9229,9226,176,177,9252,9227,9496,9488,9484,9492,9532,9146,9147,9472,9148,9149,9500,9508,9524,9516,9474,8804,8805,960,8800,163,183]:List Int).getD m2 0))) (aD:= []) (some 36) (lf 1 35) (tZ eI (b:=48) (g:=0) (o:=0+m2*1) (f:=(fun i=>([160,9670,9618,9225,9228,9229,9226,176,177,9252,9227,9496,9488,9484,9492,9532,9146,9147,9472,9148,9149,9500,9508,9524,9516,9474,8804,8805,960,8800,163,183]:List Int).getD i 0)) (nn:=32) (m:=m2) (fo:=0) (pre:= []) (post:= []) (by kernel_rfl) (by kernel_rfl) (by kernel_rfl) (lO TB) (by kernel_rfl) (by kernel_rfl) (by kernel_rfl)) (nL hS hQ)))))))))
   ·exact zL 2 (zK (zF (fP (qX (cj (zS (zL 1 (zO (v:=(dI (a2.toNat:Int))) (aD:= []) (some 38) (.ku .i64 (tm 37)) (gC (kk:= .u8) (a:=(a2.toNat:Int)) (by kernel_rfl) (qf _)) (nL hS hQ)))))))))
  ·exact zL 6 (zK (zF (fP (qX (cj (zS (zL 1 (zO (v:=(dI (a2.toNat:Int))) (aD:= []) (some 38) (.ku .i64 (tm 37)) (gC (kk:= .u8) (a:=(a2.toNat:Int)) (by kernel_rfl) (qf _)) (nL hS hQ)))))))))
 ·exact zL 9 (zK (zF (fP (qX (cj (zS (zL 1 (zO (v:=(dI (a2.toNat:Int))) (aD:= []) (some 38) (.ku .i64 (tm 37)) (gC (kk:= .u8) (a:=(a2.toNat:Int)) (by kernel_rfl) (qf _)) (nL hS hQ)))))))))
def f236(a1:Int)(a2:UInt8):Option (Int):=(bif (decide (a1=2)) then (some (a2.toNat:Int)) else (bif (decide (127<(a2.toNat:Int))) then (some 65533) else (bif (decide (a1=4)) then (bif (decide ((a2.toNat:Int)=35)) then (some 163) else (xZ a1 a2)) else (xZ a1 a2))))
theorem ane{d:Nat}(hd:1≤d){a1:Int}{a2:UInt8}{r:Int}(hS:f236 a1 a2=some r):bW av aX d 236 [(dI a1),(.d (.int .u8 (a2.toNat:Int)))] []=some ((dI r),[]):=by
 refine cL acv hd (fun Q hQ=>?_) aeZ
 refine zS (zL 1 (zK (zS (zL 3 (zK (aC (bz (zS (zL 1 (sB 9 hS (fun hS=>?_) (fun hS=>?_)))))))))))
 ·exact zL 1 (zK (zT (zS (zL 1 (zO (v:=(dI (a2.toNat:Int))) (aD:= []) (some 11) (.ku .i64 (tm 10)) (gC (kk:= .u8) (a:=(a2.toNat:Int)) (by kernel_rfl) (qf _)) (nL hS hQ))))))
 ·refine zL 1 (zK (zF (zS (zL 1 (sB 14 hS (fun hS=>?_) (fun hS=>?_))))))
  ·exact nL hS hQ
  ·refine zL 1 (zK (zF (zS (zL 1 (sB 17 hS (fun hS=>?_) (fun hS=>?_))))))
   ·refine zL 2 (sB 20 hS (fun hS=>?_) (fun hS=>?_))
    ·exact nL hS hQ
    ·exact zL 2 (zK (zF (Gb hd hQ hS _ (by kernel_rfl))))
   ·exact jL (Gb hd hQ hS)
/- farwriter/page.Rune -/
def auo(r:Int×Int)(e:PX)(st:St):Prop:=aV aav 0 ((.bE [(dI r.1),(dI r.2)]),[]) e st
def f211(a1:Int)(a2:UInt8):Option (Int×Int):=((f60 a1).bind fun z3=>(bif (!z3) then (some (0,6)) else ((f236 a1 a2).bind fun z4=>(some (z4,0)))))
theorem TM{d:Nat}(hd:2≤d){a1:Int}{a2:UInt8}{r:Int×Int}(hS:f211 a1 a2=some r):bW av aX d 211 [(dI a1),(.d (.int .u8 (a2.toNat:Int)))] []=some ((.bE [(dI r.1),(dI r.2)]),[]):=by
 refine cL auo hd (fun Q hQ=>?_) aeF
 refine zS (zL 2 (zK (aC (zS (zL 1 (aq hS (fun z3 hz3 hS=>zC 7 (Dr (aU hd rfl) hz3) (zL 1 (zK (sR 8 hS (fun hS=>?_) (fun hS=>?_)))))))))))
 ·exact nR hS hQ
 ·exact zF (fP (cj (zS (zL 2 (aq hS (fun z4 jf hS=>zC 11 (ane (aU hd rfl) jf) (nL hS hQ)))))))
/- farwriter/screen.limit -/
def aup(r:Int)(e:PX)(st:St):Prop:=aV aaw 0 ((dI r),[]) e st
def f237(a1 a2 a3:Int):Option (Int):=(some (if (if a3<a1 then a3 else a1)>a2 then (if a3<a1 then a3 else a1) else a2))
theorem DZ{d:Nat}(hd:1≤d){a1 a2:Int}{a3 r:Int}(hS:f237 a1 a2 a3=some r):bW av aX d 237 [(dI a1),(dI a2),(dI a3)] []=some ((dI r),[]):=by
 refine cL aup hd (fun Q hQ=>?_) ae0
 exact nR hS hQ
/- (*farwriter/screen.terminal).column -/
def auq(r:ag)(e:PX)(st:St):Prop:=aV aax 4 ((.bE []),[(eo r),(aH r.af),(aI r.af),(aM r.af),.box []]) e st
def f212(a1:Int)(a2:ag):Option (ag):=((f237 a1 0 (IntKind.i64.wrap (a2.af.aG.bR-1))).bind fun z2=>(some (ag.mk ({a2.af with cQ:=z2,eV:=false}) a2.sent)))
theorem gQ{d:Nat}(hd:2≤d){a1:Int}{a2 r:ag}(hS:f212 a1 a2=some r):bW av aX d 212 [(pt 0),(dI a1)] [(eo a2),(aH a2.af),(aI a2.af),(aM a2.af)]=some ((.bE []),[(eo r),(aH r.af),(aI r.af),(aM r.af),.box []]):=by
 refine cL auq hd (fun Q hQ=>?_) aeG
 exact zS (zL 5 (zK (a_ (zL 9 (aq hS (fun z2 hz2 hS=>zC 17 (DZ (aU hd rfl) hz2) (nL hS hQ)))))))
/- (*farwriter/screen.terminal).is -/
def aur(r:Bool)(e:PX)(st:St):Prop:=aV aay 0 ((dB r),[]) e st
def f214(a1:ag)(a2:List PD)(a3:Int):Option (Bool):=(bif (!decide ((cO .and .i64 a1.af.dO a3)=0)) then (some true) else (some false))
theorem si{d:Nat}(hd:1≤d){a1:ag}{a2:List PD}{a3:Int}{r:Bool}(hS:f214 a1 a2 a3=some r):bW av aX d 214 [(.cD (AA.enc a1++a2)),(dI a3)] []=some ((dB r),[]):=by
 refine cL aur hd (fun Q hQ=>?_) aeI
 refine zS (zL 1 (zK (zS (zL 7 (sB 12 hS (fun hS=>?_) (fun hS=>?_))))))
 ·exact nL hS hQ
 ·exact nL hS hQ
/- farwriter/grid.Row -/
def agf(p1:List ah):St:=⟨(up u0 4 (.r (.aJ 72 0 0 p1.length))),(up h0 72 ⟨0,some (.own 87 4 (ak.cells p1))⟩)⟩
theorem agh{p1:List ah}:cP (agf p1) 0 SG.res=some ((.r (.own 0 87 4 p1.length (ak.cells p1))),[]):=by
 exact iN (ids:= []) (ids':= [72]) (l:= [(.r (.aJ 72 0 0 p1.length))]) (by kernel_rfl) (by kernel_rfl) (gX ak (e:=87) (k:=4) (xs:=p1) (by kernel_rfl) rfl rfl rfl rfl)
def aus(r:(List ah))(e:PX)(st:St):Prop:=aV SG 0 ((.r (.own 0 87 4 r.length (ak.cells r))),[]) e st
def f238(a1:bQ)(a2:Int):Option ((List ah)):=((f89 a1 a2).bind fun z3=>((f70 z3).bind fun z4=>(some z4)))
theorem anf{d:Nat}(hd:2≤d){a1:bQ}{a2:Int}{r:(List ah)}(hS:f238 a1 a2=some r):bW av aX d 238 [(ZA a1),(dI a2)] []=some ((.r (.own 0 87 4 r.length (ak.cells r))),[]):=by
 refine cL aus hd (fun Q hQ=>?_) ae1
 exact zS (zL 2 (zK (zS (zL 2 (aq hS (fun z3 hz3 hS=>zO (some 7) (.fO 89 [(tm 5),(tm 6)]) (vk [] [] (ab_ (aU hd rfl) hz3) qb) (aq hS (fun z4 jf hS=>zC 8 (DL (aU hd rfl) jf) (zL 1 (zK (cM (bk (eA hS hQ (fR agh))))))))))))))
/- (*farwriter/screen.terminal).clear -/
def aut(r:bw)(e:PX)(st:St):Prop:=aV aaz 0 ((AB r),[]) e st
def f216(a1:ag)(a2:List PD):Option (bw):=(some (bw.mk 0 0 a1.af.cz.dV))
theorem x_{d:Nat}(hd:1≤d){a1:ag}{a2:List PD}{r:bw}(hS:f216 a1 a2=some r):bW av aX d 216 [(.cD (AA.enc a1++a2))] []=some ((AB r),[]):=by
 refine cL aut hd (fun Q hQ=>?_) aeK
 exact nR hS hQ
/- farwriter/grid.row -/
def ang(r:(List ah)×Nat×Nat)(e:PX)(st:St):Prop:=aV c89 1 ((.r (.aJ 0 0 r.2.1 r.2.2)),[(.own 87 4 (ak.cells r.1)),.box []]) e st
def Cg(a1 a2 a3:Int)(a4:List ah):Option ((List ah)×Nat×Nat):=((bO (decide (0≤(IntKind.i64.wrap (a3*a1)))&&decide ((IntKind.i64.wrap (a3*a1))≤(IntKind.i64.wrap ((IntKind.i64.wrap (a3+1))*a1)))&&decide ((IntKind.i64.wrap ((IntKind.i64.wrap (a3+1))*a1))≤(a4.length:Int)))).bind fun z2=>(some (a4,(((IntKind.i64.wrap (a3*a1)):Int).toNat),(((IntKind.i64.wrap ((IntKind.i64.wrap (a3+1))*a1)):Int).toNat-((IntKind.i64.wrap (a3*a1)):Int).toNat))))
theorem zX{d:Nat}(hd:1≤d){a1 a2 a3:Int}{a4:List ah}{r:(List ah)×Nat×Nat}(hS:Cg a1 a2 a3 a4=some r):bW av aX d 89 [(.agg ((dI a1)::((dI a2)::((.r (.aJ 0 0 0 a4.length)):: [])))),(dI a3)] [(.own 87 4 (ak.cells a4))]=some ((.r (.aJ 0 0 r.2.1 r.2.2)),[(.own 87 4 (ak.cells r.1)),.box []]):=by
 refine cL ang hd (fun Q hQ=>?_) SN
 exact zS (zL 2 (zK (zS (zL 11 (aq hS (fun z2 hz2 hS=>zO (v:=(.r (.aJ 0 0 (((IntKind.i64.wrap (a3*a1)):Int).toNat) (((IntKind.i64.wrap ((IntKind.i64.wrap (a3+1))*a1)):Int).toNat-((IntKind.i64.wrap (a3*a1)):Int).toNat)))) (aD:= []) (some 16) (.uW 87 4 (tm 6) (.some (tm 10)) (.some (tm 15))) (CY (b:=0) (g:=0) (e:=87) (a:=(IntKind.i64.wrap (a3*a1))) (c:=(IntKind.i64.wrap ((IntKind.i64.wrap (a3+1))*a1))) (l:=0) (n:=a4.length) (l':=(((IntKind.i64.wrap (a3*a1)):Int).toNat)) (n':=(((IntKind.i64.wrap ((IntKind.i64.wrap (a3+1))*a1)):Int).toNat-((IntKind.i64.wrap (a3*a1)):Int).toNat)) (cs:=ak.cells a4) (by kernel_rfl) (by kernel_rfl) (lY _ (kk:= .i64) (j:=(IntKind.i64.wrap (a3*a1))) (by kernel_rfl)) (lY _ (kk:= .i64) (j:=(IntKind.i64.wrap ((IntKind.i64.wrap (a3+1))*a1))) (by kernel_rfl)) hz2 (by simp) rfl) (nL hS hQ)))))))
/- farwriter/grid.Blank -/
def auu(r:ah)(e:PX)(st:St):Prop:=aV aaA 0 ((.agg (Ja r)),[]) e st
def f161(a1:bw):Option (ah):=(some (ah.mk 32 a1))
theorem J2{d:Nat}(hd:1≤d){a1:bw}{r:ah}(hS:f161 a1=some r):bW av aX d 161 [(AB a1)] []=some ((.agg (Ja r)),[]):=by
 refine cL auu hd (fun Q hQ=>?_) ael
 exact nR hS hQ
/- math/bits.Mul64 -/
def auv(r:Int×Int)(e:PX)(st:St):Prop:=aV aaB 0 ((.bE [(.d (.int .u64 r.1)),(.d (.int .u64 r.2))]),[]) e st
def f235(a1 a2:Int):Option (Int×Int):=(some ((IntKind.u64.wrap ((IntKind.u64.wrap ((IntKind.u64.wrap ((Int.fdiv a1 (2^32))*(Int.fdiv a2 (2^32))))+(Int.fdiv (IntKind.u64.wrap ((IntKind.u64.wrap ((Int.fdiv a1 (2^32))*(cO .and .u64 a2 4294967295)))+(Int.fdiv (IntKind.u64.wrap ((cO .and .u64 a1 4294967295)*(cO .and .u64 a2 4294967295))) (2^32)))) (2^32))))+(Int.fdiv (IntKind.u64.wrap ((cO .and .u64 (IntKind.u64.wrap ((IntKind.u64.wrap ((Int.fdiv a1 (2^32))*(cO .and .u64 a2 4294967295)))+(Int.fdiv (IntKind.u64.wrap ((cO .and .u64 a1 4294967295)*(cO .and .u64 a2 4294967295))) (2^32)))) 4294967295)+(IntKind.u64.wrap ((cO .and .u64 a1 4294967295)*(Int.fdiv a2 (2^32)))))) (2^32)))),(IntKind.u64.wrap (a1*a2))))
theorem anh{d:Nat}(hd:1≤d){a1 a2:Int}{r:Int×Int}(hS:f235 a1 a2=some r):bW av aX d 235 [(.d (.int .u64 a1)),(.d (.int .u64 a2))] []=some ((.bE [(.d (.int .u64 r.1)),(.d (.int .u64 r.2))]),[]):=by
 refine cL auv hd (fun Q hQ=>?_) aeY
 exact nR hS hQ
/- math/bits.Mul -/
def acw(r:Int×Int)(e:PX)(st:St):Prop:=aV aaD 0 ((.bE [(.d (.int .u64 r.1)),(.d (.int .u64 r.2))]),[]) e st
def XQ(a1 a2:Int):St:=⟨(up (up u0 1 (.d (.int .u64 a2))) 0 (.d (.int .u64 a1))),h0⟩
def J3(a1 a2:Int):Option (Int×Int):=((f235 a1 a2).bind fun z2=>(some (z2.1,z2.2)))
theorem TN(hd:2≤d){a1 a2:Int}{r:Int×Int}(hQ:FQ (acw r) Q)(hS:J3 a1 a2=some r): ∀st,au [0,1] [] [] st=XQ a1 a2→ZX d Q aaC [] st:=by
 intro st he
 exact ay he (zS (zL 2 (aq hS (fun z2 hz2 hS=>zC 25 (anh (aU hd rfl) hz2) (nL hS hQ)))))
def f205(a1 a2:Int):Option (Int×Int):=(J3 a1 a2)
theorem ani{d:Nat}(hd:2≤d){a1 a2:Int}{r:Int×Int}(hS:f205 a1 a2=some r):bW av aX d 205 [(.d (.int .u64 a1)),(.d (.int .u64 a2))] []=some ((.bE [(.d (.int .u64 r.1)),(.d (.int .u64 r.2))]),[]):=by
 refine cL acw hd (fun Q hQ=>?_) aeA
 exact jR (TN hd hQ hS)
/- slices.Repeat[[]farwriter/api.Cell,farwriter/api.Cell] -/
def agi(gK:List ah):St:=⟨(up u0 4 (.r (.aJ 248 0 0 gK.length))),(up h0 248 ⟨0,some (.own 87 4 (ak.cells gK))⟩)⟩
theorem agj{gK:List ah}:cP (agi gK) 0 SH.res=some ((.r (.own 0 87 4 gK.length (ak.cells gK))),[]):=by
 exact iN (ids:= []) (ids':= [248]) (l:= [(.r (.aJ 248 0 0 gK.length))]) (by kernel_rfl) (by kernel_rfl) (gX ak (e:=87) (k:=4) (xs:=gK) (by kernel_rfl) rfl rfl rfl rfl)
def QM(r:(List ah))(e:PX)(st:St):Prop:=aV SH 0 ((.r (.own 0 87 4 r.length (ak.cells r))),[]) e st
def XR(a1:List ah)(a2:Int)(x:(List ah)×Int):St:=⟨(up (up u0 8 (dI x.2)) 7 (.r (.aJ 248 0 0 x.1.length))),(up h0 248 ⟨0,some (.own 87 4 (ak.cells x.1))⟩)⟩
def vR(a1:List ah)(a2:Int)(x:(List ah)×Int)(st:St):Prop:=au [7,8] [(248,.id 248)] [] st=XR a1 a2 x
def Bc(a1:List ah)(a2:Int)(iQ:List ah):St:=⟨(up u0 7 (.r (.aJ 248 0 0 iQ.length))),(up h0 248 ⟨0,some (.own 87 4 (ak.cells iQ))⟩)⟩
def Ci(a1:List ah)(a2:Int)(z:((List ah)))(e:PX)(st:St):Prop:=e= .exit 0∧st=Bc a1 a2 z
def Bd(a1:List ah)(a2:Int)(dZ:List ah)(gj:Int):St:=⟨(up (up u0 8 (dI gj)) 7 (.r (.aJ 248 0 0 dZ.length))),(up h0 248 ⟨0,some (.own 87 4 (ak.cells dZ))⟩)⟩
def ya(a1:List ah)(a2:Int)(dZ:List ah)(gj:Int):Option (((List ah)×Int)⊕(((List ah)))):=((bO (decide (0≤gj)&&decide (gj≤(dZ.length:Int))&&decide ((dZ.length:Int)≤(dZ.length:Int)))).bind fun z37=>((bO (decide (0≤0)&&decide (0≤gj)&&decide (gj≤(dZ.length:Int)))).bind fun L8=>((pJ dZ 0 ((gj:Int).toNat-(0:Int).toNat)).bind fun QN=>((bO (decide (((gj:Int).toNat)+(((dZ.length:Int):Int).toNat-(gj:Int).toNat)≤dZ.length))).bind fun z40=>((some (mq dZ ((gj:Int).toNat) (((dZ.length:Int):Int).toNat-(gj:Int).toNat) QN)).bind fun z41=>(some (.inl (z41,(IntKind.i64.wrap (gj+((min QN.length (((z41.length:Int):Int).toNat-(gj:Int).toNat):Nat):Int)))))))))))
theorem J4(hd:3≤d){a1:List ah}{a2:Int}{r:((List ah)×Int)⊕(((List ah)))}(hQ:FQ (bG (vR a1 a2) (Ci a1 a2) r) Q){dZ:List ah}{gj:Int}(hS:ya a1 a2 dZ gj=some r): ∀st,au [7,8] [(248,.id 248)] [] st=Bd a1 a2 dZ gj→ZX d Q aaE [] st:=by
 intro st he
 refine ay he (bz (cC (cy 3 (aq hS (fun z37 ank hS=>dr (v:=(.r (.aJ 248 0 ((gj:Int).toNat) (((dZ.length:Int):Int).toNat-(gj:Int).toNat)))) (aD:= []) (some 41) none (.uW 87 4 (tm 39) (.some (tm 40)) .none) (CY (b:=248) (g:=0) (e:=87) (a:=gj) (c:=(dZ.length:Int)) (l:=0) (n:=dZ.length) (l':=((gj:Int).toNat)) (n':=(((dZ.length:Int):Int).toNat-(gj:Int).toNat)) (cs:=ak.cells dZ) (by kernel_rfl) (by kernel_rfl) (lY _ (kk:= .i64) (j:=gj) (by kernel_rfl)) (BJ _) ank (by simp) rfl) (cy 2 (aq hS (fun L8 acy hS=>dr (v:=(.r (.aJ 248 0 0 ((gj:Int).toNat-(0:Int).toNat)))) (aD:= []) (some 44) none (.uW 87 4 (tm 42) .none (.some (tm 43))) (CY (b:=248) (g:=0) (e:=87) (a:=0) (c:=gj) (l:=0) (n:=dZ.length) (l':=0) (n':=((gj:Int).toNat-(0:Int).toNat)) (cs:=ak.cells dZ) (by kernel_rfl) (by kernel_rfl) (BJ 0) (lY _ (kk:= .i64) (j:=gj) (by kernel_rfl)) acy (by simp) rfl) (aq hS (fun QN anl hS=>aq hS (fun z40 awJ hS=>aq hS (fun z41 aCe hS=>dr (v:=(dI ((min QN.length (((dZ.length:Int):Int).toNat-(gj:Int).toNat):Nat):Int))) (aD:= [(248,⟨0,some (.own 87 4 (ak.cells (mq dZ ((gj:Int).toNat) (((dZ.length:Int):Int).toNat-(gj:Int).toNat) QN)))⟩)]) (some 45) none (.Cy 4 (tm 41) (tm 44)) (G9 ak (b:=248) (g:=0) (l:=((gj:Int).toNat)) (n:=(((dZ.length:Int):Int).toNat-(gj:Int).toNat)) (e:=87) (xs:=dZ) (ys:=QN) (by kernel_rfl) (by kernel_rfl) rfl ((congrArg (fJ _) (by kernel_rfl:bU _ (.tmp 44)=(.r (.aJ 248 0 0 ((gj:Int).toNat-(0:Int).toNat))))).trans (aip ak (e:=87) (k:=4) (xs:=dZ) (by kernel_rfl) rfl anl)) awJ) ?_))))))))))))
 have awK:=Option.some.inj aCe
 have aCf:dZ.length=z41.length:=by rw [←awK];exact (ze (of_decide_eq_true (gW awJ))).symm
 rw [awK]
 try delta Bd
 try delta ue eo kG mL uf jS lH kV j_ kW
 try delta bS
 try rw [aCf]
 exact cy 2 (fL (lK hS hQ))
def yb(a1:List ah)(a2:Int)(x:(List ah)×Int):Option (((List ah)×Int)⊕(((List ah)))):=(bif (decide (x.2<(x.1.length:Int))) then (ya a1 a2 x.1 x.2) else (some (.inr x.1)))
theorem TP(hd:3≤d){a1:List ah}{a2:Int}{r:((List ah)×Int)⊕(((List ah)))}(hQ:FQ (bG (vR a1 a2) (Ci a1 a2) r) Q){x:(List ah)×Int}(hS:yb a1 a2 x=some r)(he:vR a1 a2 x st):ZX d Q aaF [] st:=by
 refine ay he (aC (zS (zL 3 (sB 37 hS (fun hS=>?_) (fun hS=>?_)))))
 ·exact jL (J4 hd hQ hS)
 ·exact zK (zF (ay (J:=Bc a1 a2 x.1) (by kernel_rfl) (dh (cY (bk (jA hS hQ))))))
def J5(a1:List ah)(a2 Am:Int):St:=⟨(up (up u0 6 (.d (.int .u64 Am))) 0 (dE ak a1)),h0⟩
def yc(a1:List ah)(a2 Am:Int):Option ((List ah)):=((mk? 32 (IntKind.i64.wrap (Am)) (IntKind.i64.wrap (Am)) (ah.mk 0 (bw.mk 0 0 0))).bind fun z24=>((bO (decide (0+z24.length≤z24.length))).bind fun z25=>((some (mq z24 0 z24.length a1)).bind fun z26=>((b9 (yb a1 a2) (z26,((min a1.length z26.length:Nat):Int))).bind fun pP=>(some pP)))))
theorem ye(hd:3≤d){a1:List ah}{a2:Int}{r:(List ah)}(hQ:FQ (QM r) Q){Am:Int}(hS:yc a1 a2 Am=some r): ∀st,au [0,6] [] [] st=J5 a1 a2 Am→ZX d Q aaG [] st:=by
 intro st he
 refine ay he (zS (zL 2 (aq hS (fun z24 pX hS=>zO (v:=(.r (.aJ 248 1 0 z24.length))) (aD:= [(248,⟨1,some (.own 87 4 (ak.cells z24))⟩)]) (some 30) (.Oz 87 4 32 [(4,(.int .i64 0))] (tm 29) (tm 29)) (aqm ak (kl:= .i64) (kc:= .i64) (z0:=(ah.mk 0 (bw.mk 0 0 0))) (a:=(IntKind.i64.wrap (Am))) (c:=(IntKind.i64.wrap (Am))) (by kernel_rfl) (by kernel_rfl) (by kernel_rfl) rfl pX) (zL 1 (zK (zS (zL 2 (aq hS (fun z25 rQ hS=>aq hS (fun z26 rH hS=>zO (v:=(dI ((min a1.length z24.length:Nat):Int))) (aD:= [(248,⟨1,some (.own 87 4 (ak.cells (mq z24 0 z24.length a1)))⟩)]) (some 33) (.Cy 4 (tm 31) (tm 32)) (G9 ak (b:=248) (g:=1) (l:=0) (n:=z24.length) (e:=87) (xs:=z24) (ys:=a1) (by kernel_rfl) (by kernel_rfl) rfl ((congrArg (fJ _) (by kernel_rfl:bU _ (.tmp 32)=(dE ak a1))).trans (av5 _ _)) rQ) ?_)))))))))))
 have awL:=Option.some.inj rH
 have aCg:z24.length=z26.length:=by rw [←awL];exact (ze (of_decide_eq_true (gW rQ))).symm
 rw [awL]
 try delta J5
 try delta ue eo kG mL uf jS lH kV j_ kW
 try delta bS
 try rw [aCg]
 refine zL 1 (zK (aC (bz (aq hS (fun pP NL hS=>dN (vR a1 a2) (Ci a1 a2) (fun x st r Q h0 hS hQ=>TP hd hQ hS h0) (x:=(z26,((min a1.length z26.length:Nat):Int))) (z:=pP) (by show au _ _ _ _=_;kernel_rfl) NL ?_)))))
 intro e bl _ hX
 obtain ⟨rfl,rfl⟩:_∧_:=hX
 exact j9 (cj (zS (zL 2 (zK (cM (bk (eA hS hQ (fR agj))))))))
def XS(a1:List ah)(a2:Int):St:=⟨(up (up u0 1 (dI a2)) 0 (dE ak a1)),h0⟩
def D1(a1:List ah)(a2:Int):Option ((List ah)):=((f205 (IntKind.u64.wrap ((a1.length:Int))) (IntKind.u64.wrap (a2))).bind fun z21=>(bif (decide (0<z21.1)) then ((bO false).bind fun Th=>((bO false).bind fun z44=>(yc a1 a2 z21.2))) else (bif (decide (9223372036854775807<z21.2)) then ((bO false).bind fun P9=>((bO false).bind fun z46=>(yc a1 a2 z21.2))) else (yc a1 a2 z21.2))))
theorem Gc(hd:3≤d){a1:List ah}{a2:Int}{r:(List ah)}(hQ:FQ (QM r) Q)(hS:D1 a1 a2=some r): ∀st,au [0,1] [] [] st=XS a1 a2→ZX d Q aaH [] st:=by
 intro st he
 refine ay he (zS (zL 5 (aq hS (fun z21 nc hS=>zC 18 (ani (aU hd rfl) nc) (zL 5 (zK (aC (zS (zL 1 (sB 22 hS (fun hS=>?_) (fun hS=>?_)))))))))))
 ·exact zL 4 (zK (zT (a_ (aq hS (fun Th NM hS=>zO (v:= .un) (aD:= []) (some 27) (.mx []) (by exact absurd NM (by simp [bO])) (aq hS (fun z44 Ju hS=>zO (v:= .un) (aD:= []) none (.mx []) (by exact absurd Ju (by simp [bO])) (zK (ye hd hQ hS _ (by kernel_rfl))))))))))
 ·refine zL 2 (sB 25 hS (fun hS=>?_) (fun hS=>?_))
  ·exact zL 1 (zK (zT (a_ (aq hS (fun P9 Ti hS=>zO (v:= .un) (aD:= []) (some 27) (.mx []) (by exact absurd Ti (by simp [bO])) (aq hS (fun z46 NN hS=>zO (v:= .un) (aD:= []) none (.mx []) (by exact absurd NN (by simp [bO])) (zK (ye hd hQ hS _ (by kernel_rfl))))))))))
  ·exact jL (ye hd hQ hS)
def f177(a1:List ah)(a2:Int):Option ((List ah)):=(bif (decide (a2<0)) then ((bO false).bind fun Dv=>((bO false).bind fun xD=>(D1 a1 a2))) else (D1 a1 a2))
theorem anm{d:Nat}(hd:3≤d){a1:List ah}{a2:Int}{r:(List ah)}(hS:f177 a1 a2=some r):bW av aX d 177 [(dE ak a1),(dI a2)] []=some ((.r (.own 0 87 4 r.length (ak.cells r))),[]):=by
 refine cL QM hd (fun Q hQ=>?_) aem
 refine zS (zL 1 (zK (aC (zS (zL 1 (sB 10 hS (fun hS=>?_) (fun hS=>?_)))))))
 ·exact zK (zT (a_ (aq hS (fun Dv JC hS=>zO (v:= .un) (aD:= []) (some 11) (.mx []) (by exact absurd JC (by simp [bO])) (aq hS (fun xD FW hS=>zO (v:= .un) (aD:= []) none (.mx []) (by exact absurd FW (by simp [bO])) (zK (Gc hd hQ hS _ (by kernel_rfl)))))))))
 ·exact jL (Gc hd hQ hS)
/- farwriter/grid.blanks -/
def agk(p1 p2:Int)(p3:List ah):St:=⟨(up u0 6 (pt 56)),(up (up h0 128 ⟨0,some (.own 87 4 (ak.cells p3))⟩) 56 ⟨0,some (.box ((dI p1)::((dI p2)::((.r (.aJ 128 0 0 p3.length)):: []))))⟩)⟩
theorem agl{p1 p2:Int}{p3:List ah}:cP (agk p1 p2 p3) 0 c138.res=some ((.agg ((dI p1)::((dI p2)::((.r (.own 0 87 4 p3.length (ak.cells p3))):: [])))),[]):=by
 exact iN (ids:= []) (ids':= [128]) (l:= [(.agg ((dI p1)::((dI p2)::((.r (.aJ 128 0 0 p3.length)):: []))))]) (by kernel_rfl) (by kernel_rfl) (BK (aN rfl (aN rfl (aN (gX ak (e:=87) (k:=4) (xs:=p3) (by kernel_rfl) rfl rfl rfl rfl) mW))))
def auw(r:Int×Int×(List ah))(e:PX)(st:St):Prop:=aV c138 0 ((.agg ((dI r.1)::((dI r.2.1)::((.r (.own 0 87 4 r.2.2.length (ak.cells r.2.2))):: [])))),[]) e st
def f138(a1 a2:Int)(a3:bw):Option (Int×Int×(List ah)):=((f161 a3).bind fun z3=>((f177 [z3] (IntKind.i64.wrap (a1*a2))).bind fun z4=>(some (a1,a2,z4))))
theorem TQ{d:Nat}(hd:4≤d){a1 a2:Int}{a3:bw}{r:Int×Int×(List ah)}(hS:f138 a1 a2 a3=some r):bW av aX d 138 [(dI a1),(dI a2),(AB a3)] []=some ((.agg ((dI r.1)::((dI r.2.1)::((.r (.own 0 87 4 r.2.2.length (ak.cells r.2.2))):: [])))),[]):=by
 refine cL auw hd (fun Q hQ=>?_) aeg
 exact zS (zL 2 (zK (zS (zL 3 (aq hS (fun z3 hz3 hS=>zC 10 (J2 (aU hd rfl) hz3) (zL 4 (aq hS (fun z4 jf hS=>zO (some 15) (.call 177 [(tm 11),(tm 14)]) (iI (args:= [(.r (.aJ 96 1 0 (([z3]:List ah).length))),(dI (IntKind.i64.wrap (a1*a2)))]) (by kernel_rfl) (jr (tG ak (e:=87) (k:=4) (xs:= [z3]) (by kernel_rfl) rfl rfl) (lk l5)) (anm (aU hd rfl) jf) (by simp only [nX ak (fun _=>rfl),nY,nZ,qY,qZ,n7,lZ,n9,q8,q9,ri,Bool.and_true,Bool.or_true,Bool.and_self]) (by kernel_rfl)) (zL 2 (zK (cM (bk (eA hS hQ (fR agl)))))))))))))))
/- farwriter/grid.ScrollIn$1 -/
def agn(p1:List ah):St:=⟨(up u0 2 (.r (.aJ 56 0 0 p1.length))),(up h0 56 ⟨0,some (.own 87 4 (ak.cells p1))⟩)⟩
theorem ago{p1:List ah}:cP (agn p1) 0 SI.res=some ((.r (.own 0 87 4 p1.length (ak.cells p1))),[]):=by
 exact iN (ids:= []) (ids':= [56]) (l:= [(.r (.aJ 56 0 0 p1.length))]) (by kernel_rfl) (by kernel_rfl) (gX ak (e:=87) (k:=4) (xs:=p1) (by kernel_rfl) rfl rfl rfl rfl)
def auy(r:(List ah))(e:PX)(st:St):Prop:=aV SI 0 ((.r (.own 0 87 4 r.length (ak.cells r))),[]) e st
def f251(a1 a2:Int)(a3:bw)(a4:List PD):Option ((List ah)):=((f138 a1 1 a3).bind fun z2=>(some z2.2.2))
theorem ann{d:Nat}(hd:5≤d){a1 a2:Int}{a3:bw}{a4:List PD}{r:(List ah)}(hS:f251 a1 a2 a3 a4=some r):bW av aX d 251 [(.cD [.int .i64 a1,.int .i64 a2,.un]),(.cD (kP.enc a3++a4))] []=some ((.r (.own 0 87 4 r.length (ak.cells r))),[]):=by
 refine cL auy hd (fun Q hQ=>?_) ae_
 exact zS (zL 1 (zK (zS (zL 3 (aq hS (fun z2 hz2 hS=>zC 6 (TQ (aU hd rfl) hz2) (zL 2 (zK (cM (bk (eA hS hQ (fR ago))))))))))))
/- farwriter/grid.move[[]farwriter/api.Cell] -/
def NY(qp LY:Int)(pQ:List ah)(mO:bw)(gu iJ:List (List ah)):St:=⟨(up (up u0 2000000 .un) 6 (.r (.aJ 64 0 0 iJ.length))),(up (up (up (up (up h0 64 ⟨0,some (.own 26 1 ((ij ak).cells iJ))⟩) 0 ⟨0,some (.own 26 1 ((ij ak).cells gu))⟩) 2 (xz mO)) 3 ⟨0,some (.own 87 4 (ak.cells pQ))⟩) 1 ⟨0,some (.box ((dI qp)::((dI LY)::((.r (.aJ 3 0 0 pQ.length)):: []))))⟩)⟩
theorem agp{qp LY:Int}{pQ:List ah}{mO:bw}{gu iJ:List (List ah)}:cP (NY qp LY pQ mO gu iJ) 4 Ng.res=some ((.r (.own 0 26 1 iJ.length ((ij ak).cells iJ))),[(.own 26 1 ((ij ak).cells gu)),(.box ((dI qp)::((dI LY)::((.r (.aJ 3 0 0 pQ.length)):: [])))),(.box ((dI mO.Flags)::((dI mO.eK)::((dI mO.dV):: [])))),(.own 87 4 (ak.cells pQ))]):=by
 exact iN (ids:= []) (ids':= [64]) (l:= [(.r (.aJ 64 0 0 iJ.length))]) (by kernel_rfl) (by kernel_rfl) (gX (ij ak) (e:=26) (k:=1) (xs:=iJ) (by kernel_rfl) rfl rfl rfl rfl)
def auz(r:Int×Int×(List ah)×bw×(List (List ah))×(List (List ah)))(e:PX)(st:St):Prop:=aV Ng 4 ((.r (.own 0 26 1 r.2.2.2.2.2.length ((ij ak).cells r.2.2.2.2.2))),[(.own 26 1 ((ij ak).cells r.2.2.2.2.1)),(.box ((dI r.1)::((dI r.2.1)::((.r (.aJ 3 0 0 r.2.2.1.length)):: [])))),(.box ((dI r.2.2.2.1.Flags)::((dI r.2.2.2.1.eK)::((dI r.2.2.2.1.dV):: [])))),(.own 87 4 (ak.cells r.2.2.1)),.box []]) e st
def XT(a1:Int)(a2:List (List ah))(a3 a4:Int)(a5:bw)(a6:List ah)(x:(List (List ah))×Int):St:=⟨(up (up (up (up (up (up u0 12 (dI x.2)) 11 (dI (a2.length:Int))) 7 (.r (.aJ 64 0 0 x.1.length))) 2 (.fn 251 [(pt 1),(pt 2)])) 1 (dI a1)) 0 (.r (.aJ 0 0 0 a2.length))),(up (up (up (up (up h0 64 ⟨0,some (.own 26 1 ((ij ak).cells x.1))⟩) 0 ⟨0,some (.own 26 1 ((ij ak).cells a2))⟩) 2 (xz a5)) 3 ⟨0,some (.own 87 4 (ak.cells a6))⟩) 1 ⟨0,some (.box ((dI a3)::((dI a4)::((.r (.aJ 3 0 0 a6.length)):: []))))⟩)⟩
def oz(a1:Int)(a2:List (List ah))(a3 a4:Int)(a5:bw)(a6:List ah)(x:(List (List ah))×Int)(st:St):Prop:=au [0,1,2,7,11,12] [(1,.id 1),(3,.id 3),(2,.id 2),(0,.id 0),(64,.id 64)] [] st=XT a1 a2 a3 a4 a5 a6 x
def Be(a1:Int)(a2:List (List ah))(a3 a4:Int)(a5:bw)(a6:List ah)(Ce:List (List ah)):St:=⟨(up u0 7 (.r (.aJ 64 0 0 Ce.length))),(up (up (up (up (up h0 64 ⟨0,some (.own 26 1 ((ij ak).cells Ce))⟩) 0 ⟨0,some (.own 26 1 ((ij ak).cells a2))⟩) 2 (xz a5)) 3 ⟨0,some (.own 87 4 (ak.cells a6))⟩) 1 ⟨0,some (.box ((dI a3)::((dI a4)::((.r (.aJ 3 0 0 a6.length)):: []))))⟩)⟩
def sj(a1:Int)(a2:List (List ah))(a3 a4:Int)(a5:bw)(a6:List ah)(z:((List (List ah))))(e:PX)(st:St):Prop:=e= .exit 0∧st=Be a1 a2 a3 a4 a5 a6 z
def L9(a1:Int)(a2:List (List ah))(a3 a4:Int)(a5:bw)(a6:List ah)(nt:List (List ah))(jg:Int):St:=⟨(up (up (up (up (up (up u0 12 (dI jg)) 11 (dI (a2.length:Int))) 7 (.r (.aJ 64 0 0 nt.length))) 2 (.fn 251 [(pt 1),(pt 2)])) 1 (dI a1)) 0 (.r (.aJ 0 0 0 a2.length))),(up (up (up (up (up h0 64 ⟨0,some (.own 26 1 ((ij ak).cells nt))⟩) 0 ⟨0,some (.own 26 1 ((ij ak).cells a2))⟩) 2 (xz a5)) 3 ⟨0,some (.own 87 4 (ak.cells a6))⟩) 1 ⟨0,some (.box ((dI a3)::((dI a4)::((.r (.aJ 3 0 0 a6.length)):: []))))⟩)⟩
def th(a1:Int)(a2:List (List ah))(a3 a4:Int)(a5:bw)(a6:List ah)(nt:List (List ah))(jg:Int):Option (((List (List ah))×Int)⊕(((List (List ah))))):=((f251 a3 a4 a5 []).bind fun dy=>((eN 24 nt ([dy]:List (List ah))).bind fun fC=>(some (.inl (fC,(IntKind.i64.wrap (jg+1)))))))
theorem yf(hd:6≤d){a1:Int}{a2:List (List ah)}{a3 a4:Int}{a5:bw}{a6:List ah}{r:((List (List ah))×Int)⊕(((List (List ah))))}(hQ:FQ (bG (oz a1 a2 a3 a4 a5 a6) (sj a1 a2 a3 a4 a5 a6) r) Q){nt:List (List ah)}{jg:Int}(hS:th a1 a2 a3 a4 a5 a6 nt jg=some r): ∀st,au [0,1,2,7,11,12] [(1,.id 1),(3,.id 3),(2,.id 2),(0,.id 0),(64,.id 64)] [] st=L9 a1 a2 a3 a4 a5 a6 nt jg→ZX d Q aaI [.blk 1,.seq aaJ] st:=by
 intro st he
 exact ay he (a_ (zL 2 (aq hS (fun dy jm hS=>zO (v:=(.r (.aJ 288 1 0 dy.length))) (aD:= [(288,⟨1,some (.own 87 4 (ak.cells dy))⟩)]) (some 35) (.lU (tm 34) []) (qC (f:=251) (cs:= [(pt 1),(pt 2)]) (by kernel_rfl) (args:= [(pt 1),(pt 2)]) (l:= [(.cD [.int .i64 a3,.int .i64 a4,.un]),(.cD (kP.enc a5++ []))]) (r:=(.r (.own 0 87 4 dy.length (ak.cells dy)))) (by kernel_rfl) (by kernel_rfl) (ann (aU hd rfl) jm) (by simp only [nX ak (fun _=>rfl),nY,nZ,qY,qZ,n7,lZ,n9,q8,q9,ri,Bool.and_true,Bool.or_true,Bool.and_self]) (by kernel_rfl) (by kernel_rfl)) (zO (v:=(.r (.aJ 296 1 0 (([dy]:List (List ah)).length)))) (aD:= [(288,⟨2,none⟩),(296,⟨1,some (.own 26 1 ((ij ak).cells ([dy])))⟩)]) (some 36) (.wU 26 1 1 [(1,(.slice .none 0 0))] [(0,(1,(tm 35)))]) ((by kernel_rfl:az _ _ 36 (bU _) (.wU 26 1 1 [(1,(.slice .none 0 0))] [(0,(1,(.tmp 35)))])=some ((.r (.aJ 296 1 0 (([dy]:List (List ah)).length))),[(288,⟨2,none⟩),(296,⟨1,some (.own 26 1 [.sl dy.length (((ak.cells dy).drop (0*ak.k)).take (dy.length*ak.k))])⟩)])).trans (by simp only [cT.O8];rfl)) (aq hS (fun fC ke hS=>zO (v:=(.r (.aJ 64 1 0 fC.length))) (aD:= [(64,⟨1,some (.own 26 1 ((ij ak).cells fC))⟩)]) (some 37) (.app 26 1 24 (tm 33) (tm 36)) (eL (ij ak) (b:=64) (g:=0) (n:=nt.length) (xs:=nt) (ys:= [dy]) ((congrArg (fJ _) (by kernel_rfl:bU _ (.tmp 36)=(.r (.aJ 296 1 0 (([dy]:List (List ah)).length))))).trans (cX (ij ak) (e:=26) (k:=1) (xs:= [dy]) (by kernel_rfl) rfl rfl)) rfl (by kernel_rfl) rfl (by kernel_rfl) rfl ke) (lL hS hQ))))))))
def L_(a1:Int)(a2:List (List ah))(a3 a4:Int)(a5:bw)(a6:List ah)(mP:List (List ah))(mY:Int):St:=⟨(up (up (up (up (up (up u0 12 (dI mY)) 11 (dI (a2.length:Int))) 7 (.r (.aJ 64 0 0 mP.length))) 2 (.fn 251 [(pt 1),(pt 2)])) 1 (dI a1)) 0 (.r (.aJ 0 0 0 a2.length))),(up (up (up (up (up h0 64 ⟨0,some (.own 26 1 ((ij ak).cells mP))⟩) 0 ⟨0,some (.own 26 1 ((ij ak).cells a2))⟩) 2 (xz a5)) 3 ⟨0,some (.own 87 4 (ak.cells a6))⟩) 1 ⟨0,some (.box ((dI a3)::((dI a4)::((.r (.aJ 3 0 0 a6.length)):: []))))⟩)⟩
def yg(a1:Int)(a2:List (List ah))(a3 a4:Int)(a5:bw)(a6:List ah)(mP:List (List ah))(mY:Int):Option (((List (List ah))×Int)⊕(((List (List ah))))):=(bif (decide (0≤(IntKind.i64.wrap (mY-a1)))) then (bif (decide ((IntKind.i64.wrap (mY-a1))<(a2.length:Int))) then ((jG (IntKind.i64.wrap (mY-a1)) a2.length).bind fun m18=>((a2[m18]?).bind fun gy=>((eN 24 mP ([gy]:List (List ah))).bind fun z20=>(some (.inl (z20,(IntKind.i64.wrap (mY+1)))))))) else (th a1 a2 a3 a4 a5 a6 mP mY)) else (th a1 a2 a3 a4 a5 a6 mP mY))
theorem J6(hd:6≤d){a1:Int}{a2:List (List ah)}{a3 a4:Int}{a5:bw}{a6:List ah}{r:((List (List ah))×Int)⊕(((List (List ah))))}(hQ:FQ (bG (oz a1 a2 a3 a4 a5 a6) (sj a1 a2 a3 a4 a5 a6) r) Q){mP:List (List ah)}{mY:Int}(hS:yg a1 a2 a3 a4 a5 a6 mP mY=some r): ∀st,au [0,1,2,7,11,12] [(1,.id 1),(3,.id 3),(2,.id 2),(0,.id 0),(64,.id 64)] [] st=L_ a1 a2 a3 a4 a5 a6 mP mY→ZX d Q aaK [] st:=by
 intro st he
 refine ay he (aC (bz (zS (zL 2 (zK (zS (zL 4 (zK (zS (zL 1 (sB 19 hS (fun hS=>?_) (fun hS=>?_))))))))))))
 ·refine zL 4 (sB 24 hS (fun hS=>?_) (fun hS=>?_))
  ·exact zL 1 (zK (zT (a_ (zL 3 (aq hS (fun m18 aCh hS=>zO (v:=(.r (.ptr 0 0 ((0+m18)*1)))) (aD:= []) (some 29) (.jz 26 1 (tm 27) (tm 28)) (za (kk:= .i64) (b:=0) (g:=0) (l:=0) (n:=a2.length) (j:=(IntKind.i64.wrap (mY-a1))) (cs:=(ij ak).cells a2) (by kernel_rfl) (by kernel_rfl) (by kernel_rfl) aCh) (aq hS (fun gy nM hS=>zO (v:=(dE ak gy)) (aD:= []) (some 30) (lf 1 29) (E1 (ij ak) (b:=0) (g:=0) (o:=(0+m18)*1) (e:=26) (k:=1) (m:=m18) (fo:=0) (xs:=a2) (by kernel_rfl) (by kernel_rfl) (by rw [Nat.zero_add];rfl) nM (by kernel_rfl) (by kernel_rfl) (by kernel_rfl)) (zL 1 (aq hS (fun z20 nN hS=>zO (v:=(.r (.aJ 64 1 0 z20.length))) (aD:= [(64,⟨1,some (.own 26 1 ((ij ak).cells z20))⟩)]) (some 32) (.app 26 1 24 (tm 26) (tm 31)) (eL (ij ak) (b:=64) (g:=0) (n:=mP.length) (xs:=mP) (ys:= [gy]) ((congrArg (fJ _) (by kernel_rfl:bU _ (.tmp 31)=(.r (.aJ 256 1 0 (([gy]:List (List ah)).length))))).trans (cX (ij ak) (e:=26) (k:=1) (xs:= [gy]) (by kernel_rfl) rfl rfl)) rfl (by kernel_rfl) rfl (by kernel_rfl) rfl nN) (lL hS hQ))))))))))))
  ·exact zL 1 (zK (zF (yf hd hQ hS _ (by kernel_rfl))))
 ·exact jL (yf hd hQ hS)
def Ma(a1:Int)(a2:List (List ah))(a3 a4:Int)(a5:bw)(a6:List ah)(iD:List (List ah))(eF:Int)(ic:Bool):St:=⟨(up (up (up (up (up (up (up u0 13 (dB ic)) 12 (dI eF)) 11 (dI (a2.length:Int))) 7 (.r (.aJ 64 0 0 iD.length))) 2 (.fn 251 [(pt 1),(pt 2)])) 1 (dI a1)) 0 (.r (.aJ 0 0 0 a2.length))),(up (up (up (up (up h0 64 ⟨0,some (.own 26 1 ((ij ak).cells iD))⟩) 0 ⟨0,some (.own 26 1 ((ij ak).cells a2))⟩) 2 (xz a5)) 3 ⟨0,some (.own 87 4 (ak.cells a6))⟩) 1 ⟨0,some (.box ((dI a3)::((dI a4)::((.r (.aJ 3 0 0 a6.length)):: []))))⟩)⟩
def mG(a1:Int)(a2:List (List ah))(a3 a4:Int)(a5:bw)(a6:List ah)(iD:List (List ah))(eF:Int)(ic:Bool):Option (((List (List ah))×Int)⊕(((List (List ah))))):=(bif ic then (yg a1 a2 a3 a4 a5 a6 iD eF) else (some (.inr iD)))
theorem yh(hd:6≤d){a1:Int}{a2:List (List ah)}{a3 a4:Int}{a5:bw}{a6:List ah}{r:((List (List ah))×Int)⊕(((List (List ah))))}(hQ:FQ (bG (oz a1 a2 a3 a4 a5 a6) (sj a1 a2 a3 a4 a5 a6) r) Q){iD:List (List ah)}{eF:Int}{ic:Bool}(hS:mG a1 a2 a3 a4 a5 a6 iD eF ic=some r): ∀st,au [0,1,2,7,11,12,13] [(1,.id 1),(3,.id 3),(2,.id 2),(0,.id 0),(64,.id 64)] [] st=Ma a1 a2 a3 a4 a5 a6 iD eF ic→ZX d Q aaL [] st:=by
 intro st he
 refine ay he (aC (sR 13 hS (fun hS=>?_) (fun hS=>?_)))
 ·exact jR (J6 hd hQ hS)
 ·exact zF (ay (J:=Be a1 a2 a3 a4 a5 a6 iD) (by kernel_rfl) (dh (cY (bk (jA hS hQ)))))
def sr(a1:Int)(a2:List (List ah))(a3 a4:Int)(a5:bw)(a6:List ah)(x:(List (List ah))×Int):Option (((List (List ah))×Int)⊕(((List (List ah))))):=(bif (decide (x.2<(a2.length:Int))) then (mG a1 a2 a3 a4 a5 a6 x.1 x.2 true) else (mG a1 a2 a3 a4 a5 a6 x.1 x.2 false))
theorem TR(hd:6≤d){a1:Int}{a2:List (List ah)}{a3 a4:Int}{a5:bw}{a6:List ah}{r:((List (List ah))×Int)⊕(((List (List ah))))}(hQ:FQ (bG (oz a1 a2 a3 a4 a5 a6) (sj a1 a2 a3 a4 a5 a6) r) Q){x:(List (List ah))×Int}(hS:sr a1 a2 a3 a4 a5 a6 x=some r)(he:oz a1 a2 a3 a4 a5 a6 x st):ZX d Q aaM [] st:=by
 refine ay he (zS (sB 13 hS (fun hS=>?_) (fun hS=>?_)))
 ·exact zK (yh hd hQ hS _ (by kernel_rfl))
 ·exact jL (yh hd hQ hS)
def f250(a1:Int)(a2:List (List ah))(a3 a4:Int)(a5:bw)(a6:List ah):Option (Int×Int×(List ah)×bw×(List (List ah))×(List (List ah))):=((b9 (sr a1 a2 a3 a4 a5 a6) ([],0)).bind fun z21=>(some (a3,a4,a6,a5,a2,z21)))
theorem ano{d:Nat}(hd:6≤d){a1:Int}{a2:List (List ah)}{a3 a4:Int}{a5:bw}{a6:List ah}{r:Int×Int×(List ah)×bw×(List (List ah))×(List (List ah))}(hS:f250 a1 a2 a3 a4 a5 a6=some r):bW av aX d 250 [(.r (.aJ 0 0 0 a2.length)),(dI a1),(.fn 251 [(pt 1),(pt 2)])] [(.own 26 1 ((ij ak).cells a2)),(.box ((dI a3)::((dI a4)::((.r (.aJ 3 0 0 a6.length)):: [])))),(.box ((dI a5.Flags)::((dI a5.eK)::((dI a5.dV):: [])))),(.own 87 4 (ak.cells a6))]=some ((.r (.own 0 26 1 r.2.2.2.2.2.length ((ij ak).cells r.2.2.2.2.2))),[(.own 26 1 ((ij ak).cells r.2.2.2.2.1)),(.box ((dI r.1)::((dI r.2.1)::((.r (.aJ 3 0 0 r.2.2.1.length)):: [])))),(.box ((dI r.2.2.2.1.Flags)::((dI r.2.2.2.1.eK)::((dI r.2.2.2.1.dV):: [])))),(.own 87 4 (ak.cells r.2.2.1)),.box []]):=by
 refine cL auz hd (fun Q hQ=>?_) ae9
 refine zS (zL 1 (zK (zS (zL 1 (zK (aC (zS (zL 3 (zK (bz (aq hS (fun z21 nc hS=>dN (oz a1 a2 a3 a4 a5 a6) (sj a1 a2 a3 a4 a5 a6) (fun x st r Q h0 hS hQ=>TR hd hQ hS h0) (x:=([],0)) (z:=z21) (by show au _ _ _ _=_;kernel_rfl) nc ?_))))))))))))
 intro e bl _ hX
 obtain ⟨rfl,rfl⟩:_∧_:=hX
 exact j9 (cj (zS (zL 2 (zK (cM (bk (eA hS hQ (axU (by kernel_rfl) (by kernel_rfl:dY Ng.fin _=NY a3 a4 a6 a5 a2 z21) (by kernel_rfl) agp))))))))
/- farwriter/grid.ScrollIn -/
def acz(r:(List ah))(e:PX)(st:St):Prop:=aV aaT 1 ((.bE []),[(.own 87 4 (ak.cells r)),.box []]) e st
def XU(a1 a2:Int)(a3 a4 a5:Int)(a6:bw)(a7:List ah)(x:(List ah)×Int×Int×(List (List ah))×Int×Int):St:=⟨(up (up (up (up (up u0 34 (dI x.2.2.2.2.2)) 33 (dI x.2.2.2.2.1)) 32 (.r (.aJ 256 0 0 x.2.2.2.1.length))) 5 (pt 48)) 1 (dI a3)),(up (up (up h0 256 ⟨0,some (.own 26 1 ((ij ak).cells x.2.2.2.1))⟩) 48 ⟨0,some (.box ((dI x.2.1)::((dI x.2.2.1)::((.r (.aJ 0 0 0 x.1.length)):: []))))⟩) 0 ⟨0,some (.own 87 4 (ak.cells x.1))⟩)⟩
def su(a1 a2:Int)(a3 a4 a5:Int)(a6:bw)(a7:List ah)(x:(List ah)×Int×Int×(List (List ah))×Int×Int)(st:St):Prop:=au [1,5,32,33,34] [(0,.id 0),(48,.id 48),(256,.id 256)] [] st=XU a1 a2 a3 a4 a5 a6 a7 x
def Bf(a1 a2:Int)(a3 a4 a5:Int)(a6:bw)(a7 TS:List ah):St:=⟨u0,(up h0 0 ⟨0,some (.own 87 4 (ak.cells TS))⟩)⟩
def vS(a1 a2:Int)(a3 a4 a5:Int)(a6:bw)(a7:List ah)(z:((List ah)))(e:PX)(st:St):Prop:=e= .exit 2∧st=Bf a1 a2 a3 a4 a5 a6 a7 z
def tK(a1 a2:Int)(a3 a4 a5:Int)(a6:bw)(a7 D2:List ah)(J7 J8:Int)(wK:List (List ah))(NZ D3:Int):St:=⟨(up (up (up (up (up u0 34 (dI D3)) 33 (dI NZ)) 32 (.r (.aJ 256 0 0 wK.length))) 5 (pt 48)) 1 (dI a3)),(up (up (up h0 256 ⟨0,some (.own 26 1 ((ij ak).cells wK))⟩) 48 ⟨0,some (.box ((dI J7)::((dI J8)::((.r (.aJ 0 0 0 D2.length)):: []))))⟩) 0 ⟨0,some (.own 87 4 (ak.cells D2))⟩)⟩
def yj(a1 a2:Int)(a3 a4 a5:Int)(a6:bw)(a7 D2:List ah)(J7 J8:Int)(wK:List (List ah))(NZ D3:Int):Option (((List ah)×Int×Int×(List (List ah))×Int×Int)⊕(((List ah)))):=((jG D3 wK.length).bind fun m58=>((wK[m58]?).bind fun z59=>((Cg J7 J8 (IntKind.i64.wrap (a3+D3)) D2).bind fun uB=>((bO (decide (uB.1.length=D2.length))).bind fun z61=>((bO (decide (uB.2.1+uB.2.2≤uB.1.length))).bind fun z62=>((some (mq uB.1 uB.2.1 uB.2.2 z59)).bind fun z63=>(some (.inl (z63,J7,J8,wK,NZ,(IntKind.i64.wrap (D3+1)))))))))))
theorem J9(hd:7≤d){a1 a2:Int}{a3 a4 a5:Int}{a6:bw}{a7:List ah}{r:((List ah)×Int×Int×(List (List ah))×Int×Int)⊕(((List ah)))}(hQ:FQ (bG (su a1 a2 a3 a4 a5 a6 a7) (vS a1 a2 a3 a4 a5 a6 a7) r) Q){D2:List ah}{J7 J8:Int}{wK:List (List ah)}{NZ D3:Int}(hS:yj a1 a2 a3 a4 a5 a6 a7 D2 J7 J8 wK NZ D3=some r): ∀st,au [1,5,32,33,34] [(0,.id 0),(48,.id 48),(256,.id 256)] [] st=tK a1 a2 a3 a4 a5 a6 a7 D2 J7 J8 wK NZ D3→ZX d Q aaP [] st:=by
 intro st he
 refine ay he (aC (bz (zS (zL 1 (aq hS (fun m58 aCi hS=>zO (v:=(.r (.ptr 256 0 ((0+m58)*1)))) (aD:= []) (some 37) (.jz 26 1 (tm 32) (tm 34)) (za (kk:= .i64) (b:=256) (g:=0) (l:=0) (n:=wK.length) (j:=D3) (cs:=(ij ak).cells wK) (by kernel_rfl) (by kernel_rfl) (by kernel_rfl) aCi) (aq hS (fun z59 Tl hS=>zO (v:=(dE ak z59)) (aD:= []) (some 38) (lf 1 37) (E1 (ij ak) (b:=256) (g:=0) (o:=(0+m58)*1) (e:=26) (k:=1) (m:=m58) (fo:=0) (xs:=wK) (by kernel_rfl) (by kernel_rfl) (by rw [Nat.zero_add];rfl) Tl (by kernel_rfl) (by kernel_rfl) (by kernel_rfl)) (zL 2 (zK (a_ (zL 4 (WB 43 [0] (fun _ h=>zX (aU hd rfl) h) hS (fun uB awC anq hS=>?_))))))))))))))
 have aCj:D2.length=uB.1.length:=(of_decide_eq_true (gW anq)).symm
 try delta tK
 try delta ue eo kG mL uf jS lH kV j_ kW
 try delta bS
 try rw [aCj]
 refine zL 1 (aq hS (fun z62 acA hS=>aq hS (fun z63 aCk hS=>zO (v:=(dI ((min z59.length uB.2.2:Nat):Int))) (aD:= [(0,⟨0,some (.own 87 4 (ak.cells (mq uB.1 uB.2.1 uB.2.2 z59)))⟩)]) (some 45) (.Cy 4 (tm 43) (tm 44)) (G9 ak (b:=0) (g:=0) (l:=uB.2.1) (n:=uB.2.2) (e:=87) (xs:=uB.1) (ys:=z59) (by kernel_rfl) (by kernel_rfl) rfl ((congrArg (fJ _) (by kernel_rfl:bU _ (.tmp 44)=(dE ak z59))).trans (av5 _ _)) acA) ?_)))
 have awM:=Option.some.inj aCk
 have aCl:uB.1.length=z63.length:=by rw [←awM];exact (ze (of_decide_eq_true (gW acA))).symm
 rw [awM]
 try delta tK
 try delta ue eo kG mL uf jS lH kV j_ kW
 try delta bS
 try rw [aCl]
 exact lL hS hQ
def Mb(a1 a2:Int)(a3 a4 a5:Int)(a6:bw)(a7 D4:List ah)(N0 N1:Int)(J_:List (List ah))(N2 N3:Int)(N4:Bool):St:=⟨(up (up (up (up (up (up u0 35 (dB N4)) 34 (dI N3)) 33 (dI N2)) 32 (.r (.aJ 256 0 0 J_.length))) 5 (pt 48)) 1 (dI a3)),(up (up (up h0 256 ⟨0,some (.own 26 1 ((ij ak).cells J_))⟩) 48 ⟨0,some (.box ((dI N0)::((dI N1)::((.r (.aJ 0 0 0 D4.length)):: []))))⟩) 0 ⟨0,some (.own 87 4 (ak.cells D4))⟩)⟩
def mH(a1 a2:Int)(a3 a4 a5:Int)(a6:bw)(a7 D4:List ah)(N0 N1:Int)(J_:List (List ah))(N2 N3:Int)(N4:Bool):Option (((List ah)×Int×Int×(List (List ah))×Int×Int)⊕(((List ah)))):=(bif N4 then (yj a1 a2 a3 a4 a5 a6 a7 D4 N0 N1 J_ N2 N3) else (some (.inr D4)))
theorem yl(hd:7≤d){a1 a2:Int}{a3 a4 a5:Int}{a6:bw}{a7:List ah}{r:((List ah)×Int×Int×(List (List ah))×Int×Int)⊕(((List ah)))}(hQ:FQ (bG (su a1 a2 a3 a4 a5 a6 a7) (vS a1 a2 a3 a4 a5 a6 a7) r) Q){D4:List ah}{N0 N1:Int}{J_:List (List ah)}{N2 N3:Int}{N4:Bool}(hS:mH a1 a2 a3 a4 a5 a6 a7 D4 N0 N1 J_ N2 N3 N4=some r): ∀st,au [1,5,32,33,34,35] [(0,.id 0),(48,.id 48),(256,.id 256)] [] st=Mb a1 a2 a3 a4 a5 a6 a7 D4 N0 N1 J_ N2 N3 N4→ZX d Q aaQ [] st:=by
 intro st he
 refine ay he (aC (sR 35 hS (fun hS=>?_) (fun hS=>?_)))
 ·exact jR (J9 hd hQ hS)
 ·exact zF (ay (J:=Bf a1 a2 a3 a4 a5 a6 a7 D4) (by kernel_rfl) (dh (cY (bk (jA hS hQ)))))
def uM(a1 a2:Int)(a3 a4 a5:Int)(a6:bw)(a7:List ah)(x:(List ah)×Int×Int×(List (List ah))×Int×Int):Option (((List ah)×Int×Int×(List (List ah))×Int×Int)⊕(((List ah)))):=(bif (decide (x.2.2.2.2.2<x.2.2.2.2.1)) then (mH a1 a2 a3 a4 a5 a6 a7 x.1 x.2.1 x.2.2.1 x.2.2.2.1 x.2.2.2.2.1 x.2.2.2.2.2 true) else (mH a1 a2 a3 a4 a5 a6 a7 x.1 x.2.1 x.2.2.1 x.2.2.2.1 x.2.2.2.2.1 x.2.2.2.2.2 false))
theorem TT(hd:7≤d){a1 a2:Int}{a3 a4 a5:Int}{a6:bw}{a7:List ah}{r:((List ah)×Int×Int×(List (List ah))×Int×Int)⊕(((List ah)))}(hQ:FQ (bG (su a1 a2 a3 a4 a5 a6 a7) (vS a1 a2 a3 a4 a5 a6 a7) r) Q){x:(List ah)×Int×Int×(List (List ah))×Int×Int}(hS:uM a1 a2 a3 a4 a5 a6 a7 x=some r)(he:su a1 a2 a3 a4 a5 a6 a7 x st):ZX d Q aaR [] st:=by
 refine ay he (zS (sB 35 hS (fun hS=>?_) (fun hS=>?_)))
 ·exact zK (yl hd hQ hS _ (by kernel_rfl))
 ·exact jL (yl hd hQ hS)
def XV(a1 a2:Int)(a3 a4 a5:Int)(a6:bw)(a7 nt:List ah)(jg:List (List ah)):St:=⟨(up (up (up (up (up u0 10 (.r (.aJ 88 0 0 jg.length))) 9 (pt 80)) 5 (pt 48)) 3 (dI a5)) 1 (dI a3)),(up (up (up (up h0 88 ⟨0,some (.own 26 1 ((ij ak).cells jg))⟩) 80 (xz a6)) 48 ⟨0,some (.box ((dI a1)::((dI a2)::((.r (.aJ 0 0 0 nt.length)):: []))))⟩) 0 ⟨0,some (.own 87 4 (ak.cells nt))⟩)⟩
def D6(a1 a2:Int)(a3 a4 a5:Int)(a6:bw)(a7 nt:List ah)(jg:List (List ah)):Option ((List ah)):=((f250 (IntKind.i64.wrap (0-a5)) jg a1 a2 a6 nt).bind fun z37=>((bO (decide (z37.2.2.1.length=nt.length))).bind fun L8=>((bO (decide (z37.2.2.2.2.1.length=jg.length))).bind fun QN=>((b9 (uM a1 a2 a3 a4 a5 a6 a7) (z37.2.2.1,z37.1,z37.2.1,z37.2.2.2.2.2,(z37.2.2.2.2.2.length:Int),0)).bind fun z64=>(some z64)))))
theorem TU(hd:7≤d){a1 a2:Int}{a3 a4 a5:Int}{a6:bw}{a7:List ah}{r:(List ah)}(hQ:FQ (acz r) Q){nt:List ah}{jg:List (List ah)}(hS:D6 a1 a2 a3 a4 a5 a6 a7 nt jg=some r): ∀st,au [1,3,5,9,10] [(0,.id 0),(48,.id 48),(80,.id 80),(88,.id 88)] [] st=XV a1 a2 a3 a4 a5 a6 a7 nt jg→ZX d Q aaS [] st:=by
 intro st he
 refine ay he (zS (zL 4 (aq hS (fun z37 ank hS=>aq hS (fun L8 acy hS=>aq hS (fun QN anl hS=>zO (some 31) (.fO 250 [(tm 27),(tm 29),(tm 30)]) (vk [88,48,80,0] [(.own 26 1 ((ij ak).cells jg)),(.box ((dI a1)::((dI a2)::((.r (.aJ 0 0 0 nt.length)):: [])))),(.box ((dI a6.Flags)::((dI a6.eK)::((dI a6.dV):: [])))),(.own 87 4 (ak.cells nt))] (ano (aU hd rfl) ank) (sW (ij ak) (e1:=26) (k1:=1) (xs:=jg) (ys:=z37.2.2.2.2.1) (by kernel_rfl) anl (Zt (cs:=((dI a1)::((dI a2)::((.r (.aJ 0 0 0 nt.length)):: [])))) (by kernel_rfl) (Zt (cs:=((dI a6.Flags)::((dI a6.eK)::((dI a6.dV):: [])))) (by kernel_rfl) (sW ak (e1:=87) (k1:=4) (xs:=nt) (ys:=z37.2.2.1) (by kernel_rfl) acy qb))))) (zL 1 (zK (zS (zL 3 (zK (bz (aq hS (fun z64 acs hS=>dN (su a1 a2 a3 a4 a5 a6 a7) (vS a1 a2 a3 a4 a5 a6 a7) (fun x st r Q h0 hS hQ=>TT hd hQ hS h0) (x:=(z37.2.2.1,z37.1,z37.2.1,z37.2.2.2.2.2,(z37.2.2.2.2.2.length:Int),0)) (z:=z64) (by show au _ _ _ _=_;kernel_rfl) acs ?_))))))))))))))
 intro e bl _ hX
 obtain ⟨rfl,rfl⟩:_∧_:=hX
 exact nK hS hQ
def XW(a1 a2:Int)(a3 a4 a5:Int)(a6:bw)(a7:List ah)(x:(List ah)×(List (List ah))×Int):St:=⟨(up (up (up (up (up (up (up u0 11 (dI x.2.2)) 10 (.r (.aJ 88 0 0 x.2.1.length))) 9 (pt 80)) 5 (pt 48)) 3 (dI a5)) 2 (dI a4)) 1 (dI a3)),(up (up (up (up h0 88 ⟨0,some (.own 26 1 ((ij ak).cells x.2.1))⟩) 80 (xz a6)) 48 ⟨0,some (.box ((dI a1)::((dI a2)::((.r (.aJ 0 0 0 x.1.length)):: []))))⟩) 0 ⟨0,some (.own 87 4 (ak.cells x.1))⟩)⟩
def vT(a1 a2:Int)(a3 a4 a5:Int)(a6:bw)(a7:List ah)(x:(List ah)×(List (List ah))×Int)(st:St):Prop:=au [1,2,3,5,9,10,11] [(0,.id 0),(48,.id 48),(80,.id 80),(88,.id 88)] [] st=XW a1 a2 a3 a4 a5 a6 a7 x
def Bg(a1 a2:Int)(a3 a4 a5:Int)(a6:bw)(a7 wR:List ah)(gK:List (List ah)):St:=⟨(up (up (up (up (up u0 10 (.r (.aJ 88 0 0 gK.length))) 9 (pt 80)) 5 (pt 48)) 3 (dI a5)) 1 (dI a3)),(up (up (up (up h0 88 ⟨0,some (.own 26 1 ((ij ak).cells gK))⟩) 80 (xz a6)) 48 ⟨0,some (.box ((dI a1)::((dI a2)::((.r (.aJ 0 0 0 wR.length)):: []))))⟩) 0 ⟨0,some (.own 87 4 (ak.cells wR))⟩)⟩
def Cj(a1 a2:Int)(a3 a4 a5:Int)(a6:bw)(a7:List ah)(z:((List ah)×(List (List ah))))(e:PX)(st:St):Prop:=e= .exit 0∧st=Bg a1 a2 a3 a4 a5 a6 a7 z.1 z.2
def Bh(a1 a2:Int)(a3 a4 a5:Int)(a6:bw)(a7 D7:List ah)(D8:List (List ah))(Ka:Int):St:=⟨(up (up (up (up (up (up (up u0 11 (dI Ka)) 10 (.r (.aJ 88 0 0 D8.length))) 9 (pt 80)) 5 (pt 48)) 3 (dI a5)) 2 (dI a4)) 1 (dI a3)),(up (up (up (up h0 88 ⟨0,some (.own 26 1 ((ij ak).cells D8))⟩) 80 (xz a6)) 48 ⟨0,some (.box ((dI a1)::((dI a2)::((.r (.aJ 0 0 0 D7.length)):: []))))⟩) 0 ⟨0,some (.own 87 4 (ak.cells D7))⟩)⟩
def ym(a1 a2:Int)(a3 a4 a5:Int)(a6:bw)(a7 D7:List ah)(D8:List (List ah))(Ka:Int):Option (((List ah)×(List (List ah))×Int)⊕(((List ah)×(List (List ah))))):=((Cg a1 a2 Ka D7).bind fun xK=>((bO (decide (xK.1.length=D7.length))).bind fun z66=>((pJ xK.1 xK.2.1 xK.2.2).bind fun z67=>((f70 z67).bind fun pN=>((eN 24 D8 ([pN]:List (List ah))).bind fun GV=>(some (.inl (xK.1,GV,(IntKind.i64.wrap (Ka+1))))))))))
theorem Kb(hd:7≤d){a1 a2:Int}{a3 a4 a5:Int}{a6:bw}{a7:List ah}{r:((List ah)×(List (List ah))×Int)⊕(((List ah)×(List (List ah))))}(hQ:FQ (bG (vT a1 a2 a3 a4 a5 a6 a7) (Cj a1 a2 a3 a4 a5 a6 a7) r) Q){D7:List ah}{D8:List (List ah)}{Ka:Int}(hS:ym a1 a2 a3 a4 a5 a6 a7 D7 D8 Ka=some r): ∀st,au [1,2,3,5,9,10,11] [(0,.id 0),(48,.id 48),(80,.id 80),(88,.id 88)] [] st=Bh a1 a2 a3 a4 a5 a6 a7 D7 D8 Ka→ZX d Q aaN [] st:=by
 intro st he
 refine ay he (aC (bz (a_ (zL 3 (WB 23 [0] (fun _ h=>zX (aU hd rfl) h) hS (fun xK awI am0 hS=>?_))))))
 have aCm:D7.length=xK.1.length:=(of_decide_eq_true (gW am0)).symm
 try delta Bh
 try delta ue eo kG mL uf jS lH kV j_ kW
 try delta bS
 try rw [aCm]
 exact aq hS (fun z67 Tb hS=>aq hS (fun pN NC hS=>zO (some 24) (c1 70 23) (iI (args:= [(.r (.aJ 0 0 xK.2.1 xK.2.2))]) (by kernel_rfl) (jr (O6 ak (e:=87) (k:=4) (xs:=xK.1) (by kernel_rfl) rfl Tb) l5) (DL (aU hd rfl) NC) (by simp only [nX ak (fun _=>rfl),nY,nZ,qY,qZ,n7,lZ,n9,q8,q9,ri,Bool.and_true,Bool.or_true,Bool.and_self]) (by kernel_rfl)) (zO (v:=(.r (.aJ 208 1 0 (([pN]:List (List ah)).length)))) (aD:= [(200,⟨2,none⟩),(208,⟨1,some (.own 26 1 ((ij ak).cells ([pN])))⟩)]) (some 25) (.wU 26 1 1 [(1,(.slice .none 0 0))] [(0,(1,(tm 24)))]) ((by kernel_rfl:az _ _ 25 (bU _) (.wU 26 1 1 [(1,(.slice .none 0 0))] [(0,(1,(.tmp 24)))])=some ((.r (.aJ 208 1 0 (([pN]:List (List ah)).length))),[(200,⟨2,none⟩),(208,⟨1,some (.own 26 1 [.sl pN.length (((ak.cells pN).drop (0*ak.k)).take (pN.length*ak.k))])⟩)])).trans (by simp only [cT.O8];rfl)) (aq hS (fun GV Tc hS=>zO (v:=(.r (.aJ 88 1 0 GV.length))) (aD:= [(88,⟨1,some (.own 26 1 ((ij ak).cells GV))⟩)]) (some 26) (.app 26 1 24 (tm 20) (tm 25)) (eL (ij ak) (b:=88) (g:=0) (n:=D8.length) (xs:=D8) (ys:= [pN]) ((congrArg (fJ _) (by kernel_rfl:bU _ (.tmp 25)=(.r (.aJ 208 1 0 (([pN]:List (List ah)).length))))).trans (cX (ij ak) (e:=26) (k:=1) (xs:= [pN]) (by kernel_rfl) rfl rfl)) rfl (by kernel_rfl) rfl (by kernel_rfl) rfl Tc) (lL hS hQ))))))
def sw(a1 a2:Int)(a3 a4 a5:Int)(a6:bw)(a7:List ah)(x:(List ah)×(List (List ah))×Int):Option (((List ah)×(List (List ah))×Int)⊕(((List ah)×(List (List ah))))):=(bif (decide (x.2.2<a4)) then (ym a1 a2 a3 a4 a5 a6 a7 x.1 x.2.1 x.2.2) else (some (.inr (x.1,x.2.1))))
theorem TV(hd:7≤d){a1 a2:Int}{a3 a4 a5:Int}{a6:bw}{a7:List ah}{r:((List ah)×(List (List ah))×Int)⊕(((List ah)×(List (List ah))))}(hQ:FQ (bG (vT a1 a2 a3 a4 a5 a6 a7) (Cj a1 a2 a3 a4 a5 a6 a7) r) Q){x:(List ah)×(List (List ah))×Int}(hS:sw a1 a2 a3 a4 a5 a6 a7 x=some r)(he:vT a1 a2 a3 a4 a5 a6 a7 x st):ZX d Q aaO [] st:=by
 refine ay he (aC (zS (zL 2 (sB 17 hS (fun hS=>?_) (fun hS=>?_)))))
 ·exact jL (Kb hd hQ hS)
 ·exact zK (zF (ay (J:=Bg a1 a2 a3 a4 a5 a6 a7 x.1 x.2.1) (by kernel_rfl) (dh (cY (bk (jA hS hQ))))))
def f239(a1 a2:Int)(a3 a4 a5:Int)(a6:bw)(a7:List ah):Option ((List ah)):=((b9 (sw a1 a2 a3 a4 a5 a6 a7) (a7,[],a3)).bind fun z70=>(D6 a1 a2 a3 a4 a5 a6 a7 z70.1 z70.2))
theorem Kc{d:Nat}(hd:7≤d){a1 a2:Int}{a3 a4 a5:Int}{a6:bw}{a7:List ah}{r:(List ah)}(hS:f239 a1 a2 a3 a4 a5 a6 a7=some r):bW av aX d 239 [(.agg ((dI a1)::((dI a2)::((.r (.aJ 0 0 0 a7.length)):: [])))),(dI a3),(dI a4),(dI a5),(AB a6)] [(.own 87 4 (ak.cells a7))]=some ((.bE []),[(.own 87 4 (ak.cells r)),.box []]):=by
 refine cL acz hd (fun Q hQ=>?_) ae2
 refine zS (zL 2 (zK (zS (zL 1 (zK (aC (zS (zL 2 (zK (bz (aq hS (fun z70 amr hS=>dN (vT a1 a2 a3 a4 a5 a6 a7) (Cj a1 a2 a3 a4 a5 a6 a7) (fun x st r Q h0 hS hQ=>TV hd hQ hS h0) (x:=(a7,[],a3)) (z:=z70) (by show au _ _ _ _=_;kernel_rfl) amr ?_))))))))))))
 intro e bl _ hX
 obtain ⟨rfl,rfl⟩:_∧_:=hX
 exact jK (TU hd hQ hS)
/- (*farwriter/screen.terminal).index -/
def acB(r:ag)(e:PX)(st:St):Prop:=aV aaV 4 ((.bE []),[(eo r),(aH r.af),(aI r.af),(aM r.af)]) e st
def Ke(a1 jB:ag):St:=⟨(up (up (up (up u0 1000003 .un) 1000002 .un) 1000001 .un) 0 (pt 0)),(kG jB)⟩
def sx(a1 jB:ag):Option (ag):=((f216 jB []).bind fun z12=>((f239 jB.af.aG.bR jB.af.aG.bV jB.af.jx jB.af.cZ 1 z12 jB.af.aG.Cells).bind fun dP=>((bO (decide (dP.length=jB.af.aG.Cells.length))).bind fun dU=>(some (ag.mk ({jB.af with aG:=(bQ.mk jB.af.aG.bR jB.af.aG.bV dP)}) jB.sent)))))
theorem tj(hd:8≤d){a1 r:ag}(hQ:FQ (acB r) Q){jB:ag}(hS:sx a1 jB=some r): ∀st,au [0,1000001,1000002,1000003] [(0,.id 0),(1,.id 1),(2,.id 2),(3,.id 3)] [] st=Ke a1 jB→ZX d Q aaU [.blk 0] st:=by
 intro st he
 refine ay he (cC (cy 16 (aq hS (fun z12 gO hS=>dr (some 81) none (c1 216 80) (bX (x_ (aU hd rfl) gO)) (aq hS (fun dP jn hS=>aq hS (fun dU kg hS=>dr (some 82) none (.fO 239 [(tm 69),(tm 74),(tm 79),(ki 1),(tm 81)]) (vk [1] [(aH jB.af)] (Kc (aU hd rfl) jn) (sW ak (e1:=87) (k1:=4) (xs:=jB.af.aG.Cells) (ys:=dP) (by kernel_rfl) kg qb)) ?_)))))))
 have aCn:jB.af.aG.Cells.length=dP.length:=(of_decide_eq_true (gW kg)).symm
 try delta Ke
 try delta ue eo kG mL uf jS lH kV j_ kW
 try delta bS
 try rw [aCn]
 exact fL (nK hS hQ)
def f213(a1:ag):Option (ag):=(bif (decide (a1.af.Row=(IntKind.i64.wrap (a1.af.cZ-1)))) then (bif (decide (a1.af.jx=0)) then ((f214 (ag.mk ({a1.af with eV:=false}) a1.sent) [] 256).bind fun dy=>(bif (!dy) then ((f238 a1.af.aG 0).bind fun fC=>((eN 24 a1.af.bn ([(bY.mk fC)]:List bY)).bind fun fD=>(bif (decide (40<(fD.length:Int))) then ((IW fD 1 (fD.length:Int)).bind fun gy=>(sx a1 (ag.mk ({a1.af with eV:=false,bn:=gy}) a1.sent))) else (sx a1 (ag.mk ({a1.af with eV:=false,bn:=fD}) a1.sent))))) else (sx a1 (ag.mk ({a1.af with eV:=false}) a1.sent)))) else (sx a1 (ag.mk ({a1.af with eV:=false}) a1.sent))) else (bif (decide (a1.af.Row<(IntKind.i64.wrap (a1.af.aG.bV-1)))) then (some (ag.mk ({a1.af with Row:=(IntKind.i64.wrap (a1.af.Row+1)),eV:=false}) a1.sent)) else (some (ag.mk ({a1.af with eV:=false}) a1.sent))))
theorem yo{d:Nat}(hd:8≤d){a1 r:ag}(hS:f213 a1=some r):bW av aX d 213 [(pt 0)] [(eo a1),(aH a1.af),(aI a1.af),(aM a1.af)]=some ((.bE []),[(eo r),(aH r.af),(aI r.af),(aM r.af)]):=by
 refine cL acB hd (fun Q hQ=>?_) aeH
 refine zS (zL 5 (zK (bz (aC (cC (cy 11 (Ll 18 none (.sQ .eql (tm 11) (tm 17)) hS (fun hS=>?_) (fun hS=>?_))))))))
 ·refine cy 1 (fL (cj (zT (aC (zS (zL 5 (sB 24 hS (fun hS=>?_) (fun hS=>?_))))))))
  ·refine zL 2 (aq hS (fun dy jm hS=>zG (some 27) 25 true (.call 214 [(tm 26),(ki 256)]) (bX (si (aU hd rfl) jm)) (zL 2 (zK (sR 29 hS (fun hS=>?_) (fun hS=>?_))))))
   ·refine zT (aC (cC (cy 11 (aq hS (fun fC ke hS=>dr (some 41) none (.call 238 [(tm 40),(ki 0)]) (iI (args:= [(.agg ((dI a1.af.aG.bR)::((dI a1.af.aG.bV)::((.r (.aJ 1 0 0 a1.af.aG.Cells.length)):: [])))),(dI 0)]) (by kernel_rfl) (jr (aiq (lk (lk (jr (tG ak (e:=87) (k:=4) (xs:=a1.af.aG.Cells) (by kernel_rfl) rfl rfl) l5)))) (lk l5)) (anf (aU hd rfl) ke) (by simp only [nX ak (fun _=>rfl),nY,nZ,qY,qZ,n7,lZ,n9,q8,q9,ri,Bool.and_true,Bool.or_true,Bool.and_self]) (by kernel_rfl)) (cy 1 (dr (v:=(.r (.aJ 352 1 0 (([(bY.mk fC)]:List bY).length)))) (aD:= [(336,⟨2,none⟩),(352,⟨1,some (.own 111 1 (b_.cells ([(bY.mk fC)])))⟩)]) (some 43) none (.wU 111 1 1 [(1,(.slice .none 0 0))] [(0,(1,(tm 42)))]) ((by kernel_rfl:az _ _ 43 (bU _) (.wU 111 1 1 [(1,(.slice .none 0 0))] [(0,(1,(.tmp 42)))])=some ((.r (.aJ 352 1 0 (([(bY.mk fC)]:List bY).length))),[(336,⟨2,none⟩),(352,⟨1,some (.own 111 1 [.sl fC.length (((ak.cells fC).drop (0*ak.k)).take (fC.length*ak.k))])⟩)])).trans (by simp only [cT.O8];rfl)) (aq hS (fun fD lJ hS=>dr (v:=(.r (.aJ 3 1 0 fD.length))) (aD:= [(3,⟨1,some (.own 111 1 (b_.cells fD))⟩)]) (some 44) none (.app 111 1 24 (tm 35) (tm 43)) (eL b_ (b:=3) (g:=0) (n:=a1.af.bn.length) (xs:=a1.af.bn) (ys:= [(bY.mk fC)]) ((congrArg (fJ _) (by kernel_rfl:bU _ (.tmp 43)=(.r (.aJ 352 1 0 (([(bY.mk fC)]:List bY).length))))).trans (cX b_ (e:=111) (k:=1) (xs:= [(bY.mk fC)]) (by kernel_rfl) rfl rfl)) rfl (by kernel_rfl) rfl (by kernel_rfl) rfl lJ) (cy 4 (fL (cj (zS (zL 6 (sB 54 hS (fun hS=>?_) (fun hS=>?_))))))))))))))))
    ·exact zK (zT (a_ (zL 6 (aq hS (fun gy nM hS=>zO (v:=(.r (.aJ 3 2 0 gy.length))) (aD:= [(3,⟨2,some (.own 111 1 (b_.cells gy))⟩)]) (some 61) (.HP 111 1 (tm 60) (.some (ki 1)) .none) (aqn b_ (b:=3) (g:=1) (n:=fD.length) (a:=1) (c:=(fD.length:Int)) (xs:=fD) (by kernel_rfl) rfl (by kernel_rfl) rfl (lY _ (kk:= .i64) (j:=1) (by kernel_rfl)) (BJ _) nM) (zL 4 (zK (tj hd hQ hS _ (by kernel_rfl)))))))))
    ·exact jL (tj hd hQ hS)
   ·exact jR (tj hd hQ hS)
  ·exact jL (tj hd hQ hS)
 ·refine cy 1 (fL (cj (zF (aC (cC (cy 12 (Ll 96 none (.sQ .lss (tm 88) (tm 95)) hS (fun hS=>?_) (fun hS=>?_))))))))
  ·exact cy 1 (fL (nK hS hQ))
  ·exact cy 1 (fL (nK hS hQ))
/- farwriter/grid.ShiftIn$1 -/
def auB(r:ah)(e:PX)(st:St):Prop:=aV aaW 0 ((.agg (Ja r)),[]) e st
def f241(a1:bw)(a2:List PD):Option (ah):=((f161 a1).bind fun z2=>(some z2))
theorem ans{d:Nat}(hd:2≤d){a1:bw}{a2:List PD}{r:ah}(hS:f241 a1 a2=some r):bW av aX d 241 [(.cD (kP.enc a1++a2))] []=some ((.agg (Ja r)),[]):=by
 refine cL auB hd (fun Q hQ=>?_) ae4
 exact zS (zL 1 (zK (zS (zL 1 (aq hS (fun z2 hz2 hS=>zC 3 (J2 (aU hd rfl) hz2) (nL hS hQ)))))))
/- farwriter/grid.move[farwriter/api.Cell] -/
def agq(qp:List ah):St:=⟨(up u0 6 (.r (.aJ 64 0 0 qp.length))),(up h0 64 ⟨0,some (.own 87 4 (ak.cells qp))⟩)⟩
theorem agr{qp:List ah}:cP (agq qp) 0 SJ.res=some ((.r (.own 0 87 4 qp.length (ak.cells qp))),[]):=by
 exact iN (ids:= []) (ids':= [64]) (l:= [(.r (.aJ 64 0 0 qp.length))]) (by kernel_rfl) (by kernel_rfl) (gX ak (e:=87) (k:=4) (xs:=qp) (by kernel_rfl) rfl rfl rfl rfl)
def auC(r:(List ah))(e:PX)(st:St):Prop:=aV SJ 0 ((.r (.own 0 87 4 r.length (ak.cells r))),[]) e st
def XX(a1:List ah)(a2:Int)(a3:bw)(a4:List PD)(x:(List ah)×Int):St:=⟨(up (up (up (up (up (up u0 12 (dI x.2)) 11 (dI (a1.length:Int))) 7 (.r (.aJ 64 0 0 x.1.length))) 2 (.fn 241 [(.cD (kP.enc a3++a4))])) 1 (dI a2)) 0 (dE ak a1)),(up h0 64 ⟨0,some (.own 87 4 (ak.cells x.1))⟩)⟩
def oA(a1:List ah)(a2:Int)(a3:bw)(a4:List PD)(x:(List ah)×Int)(st:St):Prop:=au [0,1,2,7,11,12] [(64,.id 64)] [] st=XX a1 a2 a3 a4 x
def Bi(a1:List ah)(a2:Int)(a3:bw)(a4:List PD)(Ce:List ah):St:=⟨(up u0 7 (.r (.aJ 64 0 0 Ce.length))),(up h0 64 ⟨0,some (.own 87 4 (ak.cells Ce))⟩)⟩
def sy(a1:List ah)(a2:Int)(a3:bw)(a4:List PD)(z:((List ah)))(e:PX)(st:St):Prop:=e= .exit 0∧st=Bi a1 a2 a3 a4 z
def Mc(a1:List ah)(a2:Int)(a3:bw)(a4:List PD)(ic:List ah)(mP:Int):St:=⟨(up (up (up (up (up (up u0 12 (dI mP)) 11 (dI (a1.length:Int))) 7 (.r (.aJ 64 0 0 ic.length))) 2 (.fn 241 [(.cD (kP.enc a3++a4))])) 1 (dI a2)) 0 (dE ak a1)),(up h0 64 ⟨0,some (.own 87 4 (ak.cells ic))⟩)⟩
def tq(a1:List ah)(a2:Int)(a3:bw)(a4:List PD)(ic:List ah)(mP:Int):Option (((List ah)×Int)⊕(((List ah)))):=((f241 a3 a4).bind fun dP=>((eN 32 ic ([dP]:List ah)).bind fun dU=>(some (.inl (dU,(IntKind.i64.wrap (mP+1)))))))
theorem yq(hd:3≤d){a1:List ah}{a2:Int}{a3:bw}{a4:List PD}{r:((List ah)×Int)⊕(((List ah)))}(hQ:FQ (bG (oA a1 a2 a3 a4) (sy a1 a2 a3 a4) r) Q){ic:List ah}{mP:Int}(hS:tq a1 a2 a3 a4 ic mP=some r): ∀st,au [0,1,2,7,11,12] [(64,.id 64)] [] st=Mc a1 a2 a3 a4 ic mP→ZX d Q aaX [.blk 1,.seq aaY] st:=by
 intro st he
 exact ay he (a_ (zL 2 (aq hS (fun dP jn hS=>zO (v:=(.agg (Ja dP))) (aD:= []) (some 35) (.lU (tm 34) []) (qC (f:=241) (cs:= [(.cD (kP.enc a3++a4))]) (by kernel_rfl) (args:= [(.cD (kP.enc a3++a4))]) (l:= [(.cD (kP.enc a3++a4))]) (r:=(.agg (Ja dP))) (by kernel_rfl) (by kernel_rfl) (ans (aU hd rfl) jn) (by kernel_rfl) (by kernel_rfl) (by kernel_rfl)) (zL 1 (aq hS (fun dU kg hS=>zO (v:=(.r (.aJ 64 1 0 dU.length))) (aD:= [(64,⟨1,some (.own 87 4 (ak.cells dU))⟩)]) (some 37) (.app 87 4 32 (tm 33) (tm 36)) (eL ak (b:=64) (g:=0) (n:=ic.length) (xs:=ic) (ys:= [dP]) ((congrArg (fJ _) (by kernel_rfl:bU _ (.tmp 36)=(.r (.aJ 296 1 0 (([dP]:List ah).length))))).trans (cX ak (e:=87) (k:=4) (xs:= [dP]) (by kernel_rfl) rfl rfl)) rfl (by kernel_rfl) rfl (by kernel_rfl) rfl kg) (lL hS hQ))))))))
def Md(a1:List ah)(a2:Int)(a3:bw)(a4:List PD)(gP:List ah)(iC:Int):St:=⟨(up (up (up (up (up (up u0 12 (dI iC)) 11 (dI (a1.length:Int))) 7 (.r (.aJ 64 0 0 gP.length))) 2 (.fn 241 [(.cD (kP.enc a3++a4))])) 1 (dI a2)) 0 (dE ak a1)),(up h0 64 ⟨0,some (.own 87 4 (ak.cells gP))⟩)⟩
def yu(a1:List ah)(a2:Int)(a3:bw)(a4:List PD)(gP:List ah)(iC:Int):Option (((List ah)×Int)⊕(((List ah)))):=(bif (decide (0≤(IntKind.i64.wrap (iC-a2)))) then (bif (decide ((IntKind.i64.wrap (iC-a2))<(a1.length:Int))) then ((idx a1 (IntKind.i64.wrap (iC-a2))).bind fun fk=>((eN 32 gP ([fk]:List ah)).bind fun dy=>(some (.inl (dy,(IntKind.i64.wrap (iC+1))))))) else (tq a1 a2 a3 a4 gP iC)) else (tq a1 a2 a3 a4 gP iC))
theorem Kf(hd:3≤d){a1:List ah}{a2:Int}{a3:bw}{a4:List PD}{r:((List ah)×Int)⊕(((List ah)))}(hQ:FQ (bG (oA a1 a2 a3 a4) (sy a1 a2 a3 a4) r) Q){gP:List ah}{iC:Int}(hS:yu a1 a2 a3 a4 gP iC=some r): ∀st,au [0,1,2,7,11,12] [(64,.id 64)] [] st=Md a1 a2 a3 a4 gP iC→ZX d Q aaZ [] st:=by
 intro st he
 refine ay he (aC (bz (zS (zL 2 (zK (zS (zL 4 (zK (zS (zL 1 (sB 19 hS (fun hS=>?_) (fun hS=>?_))))))))))))
 ·refine zL 4 (sB 24 hS (fun hS=>?_) (fun hS=>?_))
  ·exact zL 1 (zK (zT (a_ (zL 3 (aq hS (fun fk kX hS=>zO (v:=(.cD (ak.enc fk++(ak.cells (a1.drop (((IntKind.i64.wrap (iC-a2)):Int).toNat+1)))))) (aD:= []) (some 29) (.jz 87 4 (tm 27) (tm 28)) (fQ ak (kk:= .i64) (xs:=a1) (j:=(IntKind.i64.wrap (iC-a2))) (by kernel_rfl) (by kernel_rfl) kX rfl (by intro h;cases h)) (zL 2 (aq hS (fun dy jm hS=>zO (v:=(.r (.aJ 64 1 0 dy.length))) (aD:= [(64,⟨1,some (.own 87 4 (ak.cells dy))⟩)]) (some 32) (.app 87 4 32 (tm 26) (tm 31)) (eL ak (b:=64) (g:=0) (n:=gP.length) (xs:=gP) (ys:= [fk]) ((congrArg (fJ _) (by kernel_rfl:bU _ (.tmp 31)=(.r (.aJ 256 1 0 (([fk]:List ah).length))))).trans (cX ak (e:=87) (k:=4) (xs:= [fk]) (by kernel_rfl) rfl rfl)) rfl (by kernel_rfl) rfl (by kernel_rfl) rfl jm) (lL hS hQ))))))))))
  ·exact zL 1 (zK (zF (yq hd hQ hS _ (by kernel_rfl))))
 ·exact jL (yq hd hQ hS)
def Me(a1:List ah)(a2:Int)(a3:bw)(a4:List PD)(gu:List ah)(iJ:Int)(fe:Bool):St:=⟨(up (up (up (up (up (up (up u0 13 (dB fe)) 12 (dI iJ)) 11 (dI (a1.length:Int))) 7 (.r (.aJ 64 0 0 gu.length))) 2 (.fn 241 [(.cD (kP.enc a3++a4))])) 1 (dI a2)) 0 (dE ak a1)),(up h0 64 ⟨0,some (.own 87 4 (ak.cells gu))⟩)⟩
def o9(a1:List ah)(a2:Int)(a3:bw)(a4:List PD)(gu:List ah)(iJ:Int)(fe:Bool):Option (((List ah)×Int)⊕(((List ah)))):=(bif fe then (yu a1 a2 a3 a4 gu iJ) else (some (.inr gu)))
theorem yw(hd:3≤d){a1:List ah}{a2:Int}{a3:bw}{a4:List PD}{r:((List ah)×Int)⊕(((List ah)))}(hQ:FQ (bG (oA a1 a2 a3 a4) (sy a1 a2 a3 a4) r) Q){gu:List ah}{iJ:Int}{fe:Bool}(hS:o9 a1 a2 a3 a4 gu iJ fe=some r): ∀st,au [0,1,2,7,11,12,13] [(64,.id 64)] [] st=Me a1 a2 a3 a4 gu iJ fe→ZX d Q aa0 [] st:=by
 intro st he
 refine ay he (aC (sR 13 hS (fun hS=>?_) (fun hS=>?_)))
 ·exact jR (Kf hd hQ hS)
 ·exact zF (ay (J:=Bi a1 a2 a3 a4 gu) (by kernel_rfl) (dh (cY (bk (jA hS hQ)))))
def o_(a1:List ah)(a2:Int)(a3:bw)(a4:List PD)(x:(List ah)×Int):Option (((List ah)×Int)⊕(((List ah)))):=(bif (decide (x.2<(a1.length:Int))) then (o9 a1 a2 a3 a4 x.1 x.2 true) else (o9 a1 a2 a3 a4 x.1 x.2 false))
theorem TW(hd:3≤d){a1:List ah}{a2:Int}{a3:bw}{a4:List PD}{r:((List ah)×Int)⊕(((List ah)))}(hQ:FQ (bG (oA a1 a2 a3 a4) (sy a1 a2 a3 a4) r) Q){x:(List ah)×Int}(hS:o_ a1 a2 a3 a4 x=some r)(he:oA a1 a2 a3 a4 x st):ZX d Q aa1 [] st:=by
 refine ay he (zS (sB 13 hS (fun hS=>?_) (fun hS=>?_)))
 ·exact zK (yw hd hQ hS _ (by kernel_rfl))
 ·exact jL (yw hd hQ hS)
def f240(a1:List ah)(a2:Int)(a3:bw)(a4:List PD):Option ((List ah)):=((b9 (o_ a1 a2 a3 a4) ([],0)).bind fun fC=>(some fC))
theorem ant{d:Nat}(hd:3≤d){a1:List ah}{a2:Int}{a3:bw}{a4:List PD}{r:(List ah)}(hS:f240 a1 a2 a3 a4=some r):bW av aX d 240 [(dE ak a1),(dI a2),(.fn 241 [(.cD (kP.enc a3++a4))])] []=some ((.r (.own 0 87 4 r.length (ak.cells r))),[]):=by
 refine cL auC hd (fun Q hQ=>?_) ae3
 refine zS (zL 1 (zK (zS (zL 1 (zK (aC (zS (zL 3 (zK (bz (aq hS (fun fC ke hS=>dN (oA a1 a2 a3 a4) (sy a1 a2 a3 a4) (fun x st r Q h0 hS hQ=>TW hd hQ hS h0) (x:=([],0)) (z:=fC) (by show au _ _ _ _=_;kernel_rfl) ke ?_))))))))))))
 intro e bl _ hX
 obtain ⟨rfl,rfl⟩:_∧_:=hX
 exact j9 (cj (zS (zL 2 (zK (cM (bk (eA hS hQ (fR agr))))))))
/- farwriter/grid.repair -/
def auD(r:(List ah))(e:PX)(st:St):Prop:=aV aa5 1 ((.bE []),[(.own 87 4 (ak.cells r)),.box []]) e st
def XY(a1 a2:Nat)(a3:List ah)(x:(List ah)×(List ah)×Int):St:=⟨(up (up (up (up u0 8 (dI x.2.2)) 7 (dI (a2:Int))) 2 (.r (.aJ 48 0 0 x.2.1.length))) 0 (.r (.aJ 0 0 a1 a2))),(up (up h0 48 ⟨0,some (.own 87 4 (ak.cells x.2.1))⟩) 0 ⟨0,some (.own 87 4 (ak.cells x.1))⟩)⟩
def sA(a1 a2:Nat)(a3:List ah)(x:(List ah)×(List ah)×Int)(st:St):Prop:=au [0,2,7,8] [(0,.id 0),(48,.id 48)] [] st=XY a1 a2 a3 x
def Bj(a1 a2:Nat)(a3 mP:List ah):St:=⟨u0,(up h0 0 ⟨0,some (.own 87 4 (ak.cells mP))⟩)⟩
def vU(a1 a2:Nat)(a3:List ah)(z:((List ah)))(e:PX)(st:St):Prop:=e= .exit 0∧st=Bj a1 a2 a3 z
def Bk(a1 a2:Nat)(a3 fV jy:List ah)(iR:Int):St:=⟨(up (up (up (up u0 8 (dI iR)) 7 (dI (a2:Int))) 2 (.r (.aJ 48 0 0 jy.length))) 0 (.r (.aJ 0 0 a1 a2))),(up (up h0 48 ⟨0,some (.own 87 4 (ak.cells jy))⟩) 0 ⟨0,some (.own 87 4 (ak.cells fV))⟩)⟩
def yx(a1 a2:Nat)(a3 fV jy:List ah)(iR:Int):Option (((List ah)×(List ah)×Int)⊕(((List ah)))):=((f91 jy iR).bind fun Dv=>(bif Dv then ((jG iR jy.length).bind fun m48=>((jy[m48]?).bind fun z49=>((f161 z49.cz).bind fun qh=>((jG iR a2).bind fun XZ=>((fV[(a1+XZ)]?).bind fun Lv=>((some (fV.set (a1+XZ) qh)).bind fun z53=>(some (.inl (z53,jy,(IntKind.i64.wrap (iR+1))))))))))) else (some (.inl (fV,jy,(IntKind.i64.wrap (iR+1)))))))
theorem Kg(hd:4≤d){a1 a2:Nat}{a3:List ah}{r:((List ah)×(List ah)×Int)⊕(((List ah)))}(hQ:FQ (bG (sA a1 a2 a3) (vU a1 a2 a3) r) Q){fV jy:List ah}{iR:Int}(hS:yx a1 a2 a3 fV jy iR=some r): ∀st,au [0,2,7,8] [(0,.id 0),(48,.id 48)] [] st=Bk a1 a2 a3 fV jy iR→ZX d Q aa2 [] st:=by
 intro st he
 refine ay he (aC (bz (zS (zL 2 (zK (zS (zL 2 (aq hS (fun Dv JC hS=>zO (some 13) (.call 91 [(tm 11),(tm 12)]) (iI (args:= [(.r (.aJ 48 0 0 jy.length)),(dI iR)]) (by kernel_rfl) (jr (tG ak (e:=87) (k:=4) (xs:=jy) (by kernel_rfl) rfl rfl) (lk l5)) (PZ (aU hd rfl) JC) (by kernel_rfl) (by kernel_rfl)) (zK (sR 13 hS (fun hS=>?_) (fun hS=>?_))))))))))))
 ·refine zT (a_ (zL 4 (aq hS (fun m48 aCo hS=>zO (v:=(.r (.ptr 48 0 ((0+m48)*4)))) (aD:= []) (some 18) (.jz 87 4 (tm 16) (tm 17)) (za (kk:= .i64) (b:=48) (g:=0) (l:=0) (n:=jy.length) (j:=iR) (cs:=ak.cells jy) (by kernel_rfl) (by kernel_rfl) (by kernel_rfl) aCo) (zL 1 (aq hS (fun z49 S0 hS=>zO (v:=(AB z49.cz)) (aD:= []) (some 20) (lt 3 19) (E1 ak (b:=48) (g:=0) (o:=(0+m48)*4+1) (e:=87) (k:=4) (m:=m48) (fo:=1) (xs:=jy) (by kernel_rfl) (by kernel_rfl) (by rw [Nat.zero_add];rfl) S0 (by kernel_rfl) (by kernel_rfl) (by kernel_rfl)) (aq hS (fun qh Ns hS=>zC 21 (J2 (aU hd rfl) Ns) (aq hS (fun XZ aCp hS=>zO (v:=(.r (.ptr 0 0 ((a1+XZ)*4)))) (aD:= []) (some 22) (.jz 87 4 (tm 14) (tm 15)) (za (kk:= .i64) (b:=0) (g:=0) (l:=a1) (n:=a2) (j:=iR) (cs:=ak.cells fV) (by kernel_rfl) (by kernel_rfl) (by kernel_rfl) aCp) (aq hS (fun Lv S5 hS=>aq hS (fun z53 S6 hS=>zO (v:= .un) (aD:= [(0,⟨0,some (.own 87 4 (ak.cells (fV.set (a1+XZ) qh)))⟩)]) none (.store 4 (tm 22) (tm 21)) (BG ak (b:=0) (g:=0) (o:=(a1+XZ)*4) (e:=87) (k:=4) (m:=(a1+XZ)) (fo:=0) (xs:=fV) (z:=Lv) (z':=qh) (by kernel_rfl) (new:=(Ja qh)) (ds:= [.int .i64 qh.eC,.int .i64 qh.cz.Flags,.int .i64 qh.cz.eK,.int .i64 qh.cz.dV]) (by kernel_rfl) (by kernel_rfl) (by kernel_rfl) rfl S5 (by kernel_rfl) (by kernel_rfl) (by kernel_rfl)) ?_))))))))))))))
  have awN:=Option.some.inj S6
  have aCq:fV.length=z53.length:=by rw [←awN,List.length_set]
  rw [awN]
  try delta Bk
  try delta ue eo kG mL uf jS lH kV j_ kW
  try delta bS
  try rw [aCq]
  exact lL hS hQ
 ·exact lR hS hQ
def Mf(a1 a2:Nat)(a3 jg h_:List ah)(kH:Int)(eX:Bool):St:=⟨(up (up (up (up (up u0 9 (dB eX)) 8 (dI kH)) 7 (dI (a2:Int))) 2 (.r (.aJ 48 0 0 h_.length))) 0 (.r (.aJ 0 0 a1 a2))),(up (up h0 48 ⟨0,some (.own 87 4 (ak.cells h_))⟩) 0 ⟨0,some (.own 87 4 (ak.cells jg))⟩)⟩
def pn(a1 a2:Nat)(a3 jg h_:List ah)(kH:Int)(eX:Bool):Option (((List ah)×(List ah)×Int)⊕(((List ah)))):=(bif eX then (yx a1 a2 a3 jg h_ kH) else (some (.inr jg)))
theorem yy(hd:4≤d){a1 a2:Nat}{a3:List ah}{r:((List ah)×(List ah)×Int)⊕(((List ah)))}(hQ:FQ (bG (sA a1 a2 a3) (vU a1 a2 a3) r) Q){jg h_:List ah}{kH:Int}{eX:Bool}(hS:pn a1 a2 a3 jg h_ kH eX=some r): ∀st,au [0,2,7,8,9] [(0,.id 0),(48,.id 48)] [] st=Mf a1 a2 a3 jg h_ kH eX→ZX d Q aa3 [] st:=by
 intro st he
 refine ay he (aC (sR 9 hS (fun hS=>?_) (fun hS=>?_)))
 ·exact jR (Kg hd hQ hS)
 ·exact zF (ay (J:=Bj a1 a2 a3 jg) (by kernel_rfl) (dh (cY (bk (jA hS hQ)))))
def yz(a1 a2:Nat)(a3:List ah)(x:(List ah)×(List ah)×Int):Option (((List ah)×(List ah)×Int)⊕(((List ah)))):=(bif (decide (x.2.2<(a2:Int))) then (pn a1 a2 a3 x.1 x.2.1 x.2.2 true) else (pn a1 a2 a3 x.1 x.2.1 x.2.2 false))
theorem TX(hd:4≤d){a1 a2:Nat}{a3:List ah}{r:((List ah)×(List ah)×Int)⊕(((List ah)))}(hQ:FQ (bG (sA a1 a2 a3) (vU a1 a2 a3) r) Q){x:(List ah)×(List ah)×Int}(hS:yz a1 a2 a3 x=some r)(he:sA a1 a2 a3 x st):ZX d Q aa4 [] st:=by
 refine ay he (zS (sB 9 hS (fun hS=>?_) (fun hS=>?_)))
 ·exact zK (yy hd hQ hS _ (by kernel_rfl))
 ·exact jL (yy hd hQ hS)
def f116(a1 a2:Nat)(a3:List ah):Option ((List ah)):=((pJ a3 a1 a2).bind fun z24=>((f70 z24).bind fun z25=>((b9 (yz a1 a2 a3) (a3,z25,0)).bind fun E7=>(some E7))))
theorem Kh{d:Nat}(hd:4≤d){a1 a2:Nat}{a3:List ah}{r:(List ah)}(hS:f116 a1 a2 a3=some r):bW av aX d 116 [(.r (.aJ 0 0 a1 a2))] [(.own 87 4 (ak.cells a3))]=some ((.bE []),[(.own 87 4 (ak.cells r)),.box []]):=by
 refine cL auD hd (fun Q hQ=>?_) aed
 refine zS (zL 1 (aq hS (fun z24 pX hS=>aq hS (fun z25 rQ hS=>zO (some 5) (c1 70 4) (iI (args:= [(.r (.aJ 0 0 a1 a2))]) (by kernel_rfl) (jr (O6 ak (e:=87) (k:=4) (xs:=a3) (by kernel_rfl) rfl pX) l5) (DL (aU hd rfl) rQ) (by simp only [nX ak (fun _=>rfl),nY,nZ,qY,qZ,n7,lZ,n9,q8,q9,ri,Bool.and_true,Bool.or_true,Bool.and_self]) (by kernel_rfl)) (zL 1 (zK (zS (zL 3 (zK (bz (aq hS (fun E7 Jw hS=>dN (sA a1 a2 a3) (vU a1 a2 a3) (fun x st r Q h0 hS hQ=>TX hd hQ hS h0) (x:=(a3,z25,0)) (z:=E7) (by show au _ _ _ _=_;kernel_rfl) Jw ?_))))))))))))
 intro e bl _ hX
 obtain ⟨rfl,rfl⟩:_∧_:=hX
 exact nK hS hQ
/- farwriter/grid.ShiftIn -/
def auE(r:(List ah))(e:PX)(st:St):Prop:=aV aa6 1 ((.bE []),[(.own 87 4 (ak.cells r)),.box []]) e st
def f215(a1 a2:Int)(a3 a4:Int)(a5 a6:Int)(a7:bw)(a8:List ah):Option ((List ah)):=((Cg a1 a2 a3 a8).bind fun cS=>((bO (decide (cS.1.length=a8.length))).bind fun z12=>((bO (decide (0≤a4)&&decide (a4≤a5)&&decide (a5≤(cS.2.2:Int)))).bind fun dP=>((bO (decide (0≤a4)&&decide (a4≤a5)&&decide (a5≤(cS.2.2:Int)))).bind fun dU=>((pJ cS.1 (cS.2.1+(a4:Int).toNat) ((a5:Int).toNat-(a4:Int).toNat)).bind fun fk=>((f240 fk a6 a7 []).bind fun dy=>((bO (decide ((cS.2.1+(a4:Int).toNat)+((a5:Int).toNat-(a4:Int).toNat)≤cS.1.length))).bind fun fC=>((some (mq cS.1 (cS.2.1+(a4:Int).toNat) ((a5:Int).toNat-(a4:Int).toNat) dy)).bind fun fD=>((f116 cS.2.1 cS.2.2 fD).bind fun gy=>((bO (decide (gy.length=fD.length))).bind fun z20=>(some gy)))))))))))
theorem TY{d:Nat}(hd:5≤d){a1 a2:Int}{a3 a4:Int}{a5 a6:Int}{a7:bw}{a8:List ah}{r:(List ah)}(hS:f215 a1 a2 a3 a4 a5 a6 a7 a8=some r):bW av aX d 215 [(.agg ((dI a1)::((dI a2)::((.r (.aJ 0 0 0 a8.length)):: [])))),(dI a3),(dI a4),(dI a5),(dI a6),(AB a7)] [(.own 87 4 (ak.cells a8))]=some ((.bE []),[(.own 87 4 (ak.cells r)),.box []]):=by
 refine cL auE hd (fun Q hQ=>?_) aeJ
 refine zS (zL 2 (zK (zS (zL 2 (WB 15 [0] (fun _ h=>zX (aU hd rfl) h) hS (fun cS kf gO hS=>?_))))))
 have anv:a8.length=cS.1.length:=(of_decide_eq_true (gW gO)).symm
 try delta ue eo kG mL uf jS lH kV j_ kW
 try delta bS
 try rw [anv]
 refine zL 1 (zK (aC (cC (cy 3 (aq hS (fun dP jn hS=>dr (v:=(.r (.aJ 0 0 (cS.2.1+(a4:Int).toNat) ((a5:Int).toNat-(a4:Int).toNat)))) (aD:= []) (some 19) none (.uW 87 4 (tm 16) (.some (tm 17)) (.some (tm 18))) (CY (b:=0) (g:=0) (e:=87) (a:=a4) (c:=a5) (l:=cS.2.1) (n:=cS.2.2) (l':=(cS.2.1+(a4:Int).toNat)) (n':=((a5:Int).toNat-(a4:Int).toNat)) (cs:=ak.cells cS.1) (by kernel_rfl) (by kernel_rfl) (lY _ (kk:= .i64) (j:=a4) (by kernel_rfl)) (lY _ (kk:= .i64) (j:=a5) (by kernel_rfl)) jn (by simp) rfl) (cy 3 (aq hS (fun dU kg hS=>dr (v:=(.r (.aJ 0 0 (cS.2.1+(a4:Int).toNat) ((a5:Int).toNat-(a4:Int).toNat)))) (aD:= []) (some 23) none (.uW 87 4 (tm 20) (.some (tm 21)) (.some (tm 22))) (CY (b:=0) (g:=0) (e:=87) (a:=a4) (c:=a5) (l:=cS.2.1) (n:=cS.2.2) (l':=(cS.2.1+(a4:Int).toNat)) (n':=((a5:Int).toNat-(a4:Int).toNat)) (cs:=ak.cells cS.1) (by kernel_rfl) (by kernel_rfl) (lY _ (kk:= .i64) (j:=a4) (by kernel_rfl)) (lY _ (kk:= .i64) (j:=a5) (by kernel_rfl)) kg (by simp) rfl) (cy 2 (aq hS (fun fk kX hS=>aq hS (fun dy jm hS=>dr (some 26) none (.call 240 [(tm 23),(tm 24),(tm 25)]) (iI (args:= [(.r (.aJ 0 0 (cS.2.1+(a4:Int).toNat) ((a5:Int).toNat-(a4:Int).toNat))),(dI a6),(.fn 241 [(.r (.ptr 96 1 0))])]) (by kernel_rfl) (jr (O6 ak (e:=87) (k:=4) (xs:=cS.1) (by kernel_rfl) rfl kX) (lk (lk l5))) (ant (aU hd rfl) jm) (by simp only [nX ak (fun _=>rfl),nY,nZ,qY,qZ,n7,lZ,n9,q8,q9,ri,Bool.and_true,Bool.or_true,Bool.and_self]) (by kernel_rfl)) (aq hS (fun fC ke hS=>aq hS (fun fD lJ hS=>dr (v:=(dI ((min dy.length ((a5:Int).toNat-(a4:Int).toNat):Nat):Int))) (aD:= [(0,⟨0,some (.own 87 4 (ak.cells (mq cS.1 (cS.2.1+(a4:Int).toNat) ((a5:Int).toNat-(a4:Int).toNat) dy)))⟩)]) (some 27) none (.Cy 4 (tm 19) (tm 26)) (G9 ak (b:=0) (g:=0) (l:=(cS.2.1+(a4:Int).toNat)) (n:=((a5:Int).toNat-(a4:Int).toNat)) (e:=87) (xs:=cS.1) (ys:=dy) (by kernel_rfl) (by kernel_rfl) rfl ((congrArg (fJ _) (by kernel_rfl:bU _ (.tmp 26)=(.r (.aJ 216 1 0 dy.length)))).trans (cX ak (e:=87) (k:=4) (xs:=dy) (by kernel_rfl) rfl rfl)) ke) ?_))))))))))))))))
 have awO:=Option.some.inj lJ
 have aCr:cS.1.length=fD.length:=by rw [←awO];exact (ze (of_decide_eq_true (gW ke))).symm
 rw [awO]
 try delta ue eo kG mL uf jS lH kV j_ kW
 try delta bS
 try rw [aCr]
 refine fL (cj (a_ (zL 1 (WB 29 [0] (fun _ h=>Kh (aU hd rfl) h) hS (fun gy nM nN hS=>?_)))))
 have aCs:fD.length=gy.length:=(of_decide_eq_true (gW nN)).symm
 try delta ue eo kG mL uf jS lH kV j_ kW
 try delta bS
 try rw [aCs]
 exact nL hS hQ
/- farwriter/grid.PutIn -/
def auF(r:(List ah))(e:PX)(st:St):Prop:=aV aa7 1 ((.bE []),[(.own 87 4 (ak.cells r)),.box []]) e st
def f217(a1 a2:Int)(a3 a4 a5:Int)(a6:bw)(a7:List ah):Option ((List ah)):=((Cg a1 a2 a3 a7).bind fun z12=>((bO (decide (z12.1.length=a7.length))).bind fun dP=>((jG a4 z12.2.2).bind fun m14=>((z12.1[(z12.2.1+m14)]?).bind fun fk=>((some (z12.1.set (z12.2.1+m14) (ah.mk a5 a6))).bind fun dy=>((f90 a5).bind fun fD=>(bif (decide (fD=2)) then ((jG (IntKind.i64.wrap (a4+1)) z12.2.2).bind fun m19=>((dy[(z12.2.1+m19)]?).bind fun z20=>((some (dy.set (z12.2.1+m19) (ah.mk 0 a6))).bind fun z21=>((f116 z12.2.1 z12.2.2 z21).bind fun z22=>((bO (decide (z22.length=z21.length))).bind fun z23=>(some z22)))))) else ((f116 z12.2.1 z12.2.2 dy).bind fun z24=>((bO (decide (z24.length=dy.length))).bind fun z25=>(some z24))))))))))
theorem anw{d:Nat}(hd:5≤d){a1 a2:Int}{a3 a4 a5:Int}{a6:bw}{a7:List ah}{r:(List ah)}(hS:f217 a1 a2 a3 a4 a5 a6 a7=some r):bW av aX d 217 [(.agg ((dI a1)::((dI a2)::((.r (.aJ 0 0 0 a7.length)):: [])))),(dI a3),(dI a4),(dI a5),(AB a6)] [(.own 87 4 (ak.cells a7))]=some ((.bE []),[(.own 87 4 (ak.cells r)),.box []]):=by
 refine cL auF hd (fun Q hQ=>?_) aeL
 refine zS (zL 2 (zK (zS (zL 2 (WB 13 [0] (fun _ h=>zX (aU hd rfl) h) hS (fun z12 gO jn hS=>?_))))))
 have aCt:a7.length=z12.1.length:=(of_decide_eq_true (gW jn)).symm
 try delta ue eo kG mL uf jS lH kV j_ kW
 try delta bS
 try rw [aCt]
 refine zL 1 (zK (zS (zL 5 (aq hS (fun m14 aCu hS=>zO (v:=(.r (.ptr 0 0 ((z12.2.1+m14)*4)))) (aD:= []) (some 19) (.jz 87 4 (tm 14) (tm 15)) (za (kk:= .i64) (b:=0) (g:=0) (l:=z12.2.1) (n:=z12.2.2) (j:=a4) (cs:=ak.cells z12.1) (by kernel_rfl) (by kernel_rfl) (by kernel_rfl) aCu) (aq hS (fun fk kX hS=>aq hS (fun dy jm hS=>zO (v:= .un) (aD:= [(0,⟨0,some (.own 87 4 (ak.cells (z12.1.set (z12.2.1+m14) (ah.mk a5 a6))))⟩)]) none (.store 4 (tm 19) (tm 18)) (BG ak (b:=0) (g:=0) (o:=(z12.2.1+m14)*4) (e:=87) (k:=4) (m:=(z12.2.1+m14)) (fo:=0) (xs:=z12.1) (z:=fk) (z':=(ah.mk a5 a6)) (by kernel_rfl) (new:=((dI a5)::((dI a6.Flags)::((dI a6.eK)::((dI a6.dV):: []))))) (ds:= [.int .i64 a5,.int .i64 a6.Flags,.int .i64 a6.eK,.int .i64 a6.dV]) (by kernel_rfl) (by kernel_rfl) (by kernel_rfl) rfl kX (by kernel_rfl) (by kernel_rfl) (by kernel_rfl)) ?_))))))))
 have awP:=Option.some.inj jm
 have aCv:z12.1.length=dy.length:=by rw [←awP,List.length_set]
 rw [awP]
 try delta ue eo kG mL uf jS lH kV j_ kW
 try delta bS
 try rw [aCv]
 refine zK (aC (zS (zL 1 (aq hS (fun fD lJ hS=>zC 21 (Dn (aU hd rfl) lJ) (sB 22 hS (fun hS=>?_) (fun hS=>?_)))))))
 ·refine zK (zT (a_ (zL 5 (aq hS (fun m19 aCw hS=>zO (v:=(.r (.ptr 0 0 ((z12.2.1+m19)*4)))) (aD:= []) (some 28) (.jz 87 4 (tm 23) (tm 25)) (za (kk:= .i64) (b:=0) (g:=0) (l:=z12.2.1) (n:=z12.2.2) (j:=(IntKind.i64.wrap (a4+1))) (cs:=ak.cells dy) (by kernel_rfl) (by kernel_rfl) (by kernel_rfl) aCw) (aq hS (fun z20 nN hS=>aq hS (fun z21 nc hS=>zO (v:= .un) (aD:= [(0,⟨0,some (.own 87 4 (ak.cells (dy.set (z12.2.1+m19) (ah.mk 0 a6))))⟩)]) none (.store 4 (tm 28) (tm 27)) (BG ak (b:=0) (g:=0) (o:=(z12.2.1+m19)*4) (e:=87) (k:=4) (m:=(z12.2.1+m19)) (fo:=0) (xs:=dy) (z:=z20) (z':=(ah.mk 0 a6)) (by kernel_rfl) (new:=((dI 0)::((dI a6.Flags)::((dI a6.eK)::((dI a6.dV):: []))))) (ds:= [.int .i64 0,.int .i64 a6.Flags,.int .i64 a6.eK,.int .i64 a6.dV]) (by kernel_rfl) (by kernel_rfl) (by kernel_rfl) rfl nN (by kernel_rfl) (by kernel_rfl) (by kernel_rfl)) ?_))))))))
  have awQ:=Option.some.inj nc
  have aCx:dy.length=z21.length:=by rw [←awQ,List.length_set]
  rw [awQ]
  try delta ue eo kG mL uf jS lH kV j_ kW
  try delta bS
  try rw [aCx]
  refine zK (a_ (zL 1 (WB 30 [0] (fun _ h=>Kh (aU hd rfl) h) hS (fun z22 AK xC hS=>?_))))
  have aCy:z21.length=z22.length:=(of_decide_eq_true (gW xC)).symm
  try delta ue eo kG mL uf jS lH kV j_ kW
  try delta bS
  try rw [aCy]
  exact nL hS hQ
 ·refine zK (zF (fP (cj (a_ (zL 1 (WB 30 [0] (fun _ h=>Kh (aU hd rfl) h) hS (fun z24 pX rQ hS=>?_)))))))
  have aCz:dy.length=z24.length:=(of_decide_eq_true (gW rQ)).symm
  try delta ue eo kG mL uf jS lH kV j_ kW
  try delta bS
  try rw [aCz]
  exact nL hS hQ
end
end Go.Proofs.YtimbfadnabfabaaGreatDoor.Pm
