/- Typed functions, and that the codes are these. Printed by dec.py. -/
import Derived.Test.YtimbfadnabfabaaGreatDoorDMoF
namespace Go.Proofs.YtimbfadnabfabaaGreatDoor.Pm
noncomputable section
set_option maxRecDepth 1000000
set_option maxHeartbeats 20000000
set_option linter.unusedVariables false
set_option linter.unusedSimpArgs false
variable {d : Nat} {Q : PQ} {st : St}
/- farwriter/client.clone -/
def TA(p1:bg):St:=⟨(up u0 2 (pt 24)),(up h0 24 (av9 p1))⟩
theorem amO{p1:bg}:cP (TA p1) 0 c14.res=some ((k5 p1),[]):=by
 kernel_rfl
def azv(r:bg)(e:PX)(st:St):Prop:=aV c14 0 ((k5 r),[]) e st
def f14(a1:bg):Option (bg):=((f38 a1.af).bind fun z4=>((f39 a1.bL.Names).bind fun z5=>((f40 a1.Vars).bind fun z6=>(some ({a1 with af:=z4,bL:=(cu.mk z5 a1.bL.At),Vars:=z6})))))
theorem Qz{d:Nat}(hd:4≤d){a1 r:bg}(hS:f14 a1=some r):bW av aX d 14 [(k5 a1)] []=some ((k5 r),[]):=by
 refine cL azv hd (fun Q hQ=>?_) alr
 exact zS (zL 2 (zK (zS (zL 2 (aq hS (fun z4 jf hS=>zO (v:=(.agg (bS z4 48 1 49 1 50 1))) (aD:= [(48,⟨1,some (aH z4)⟩),(49,⟨1,some (aI z4)⟩),(50,⟨1,some (aM z4)⟩)]) (some 5) (.jd 38 [(tm 4)]) (iT (args:= [(.agg (bM a1.af))]) (args':= [(.agg (bM a1.af))]) (l:= [(.agg (bM a1.af))]) (refs:= []) (r:=(.agg (eP z4))) (v:=(.agg (bS z4 48 1 49 1 50 1))) (nJ:= [(48,⟨1,some (aH z4)⟩),(49,⟨1,some (aI z4)⟩),(50,⟨1,some (aM z4)⟩)]) (by kernel_rfl) (by kernel_rfl) (by kernel_rfl) (gM rfl lQ) (by kernel_rfl) (Hs (aU hd rfl) jf) (by kernel_rfl) (by kernel_rfl) (by kernel_rfl) (by kernel_rfl)) (zL 2 (zK (aC (cC (cy 3 (aq hS (fun z5 jZ hS=>dr (some 10) none (c1 39 9) (bX (at5 (aU hd rfl) jZ)) (cy 2 (aq hS (fun z6 nH hS=>dr (some 13) none (c1 40 12) (bX (at6 (aU hd rfl) nH)) (cy 5 (fL (cj (zS (zL 2 (zK (cM (bk (eA hS hQ (jv (by kernel_rfl) ((congrArg (fun s=>cP s 0 c14.res) (by exact (by kernel_rfl:_=(⟨(up u0 2 (pt 24)),(up h0 24 ⟨0,some (.box (oW (bg.mk ({a1 with af:=z4,bL:=(cu.mk z5 a1.bL.At),Vars:=z6}.iF) ({a1 with af:=z4,bL:=(cu.mk z5 a1.bL.At),Vars:=z6}.Cr) ({a1 with af:=z4,bL:=(cu.mk z5 a1.bL.At),Vars:=z6}.Part) ({a1 with af:=z4,bL:=(cu.mk z5 a1.bL.At),Vars:=z6}.dX) (aA.mk (bQ.mk ({a1 with af:=z4,bL:=(cu.mk z5 a1.bL.At),Vars:=z6}.af.aG.bR) ({a1 with af:=z4,bL:=(cu.mk z5 a1.bL.At),Vars:=z6}.af.aG.bV) z4.aG.Cells) ({a1 with af:=z4,bL:=(cu.mk z5 a1.bL.At),Vars:=z6}.af.Row) ({a1 with af:=z4,bL:=(cu.mk z5 a1.bL.At),Vars:=z6}.af.cQ) ({a1 with af:=z4,bL:=(cu.mk z5 a1.bL.At),Vars:=z6}.af.eV) ({a1 with af:=z4,bL:=(cu.mk z5 a1.bL.At),Vars:=z6}.af.jx) ({a1 with af:=z4,bL:=(cu.mk z5 a1.bL.At),Vars:=z6}.af.cZ) ({a1 with af:=z4,bL:=(cu.mk z5 a1.bL.At),Vars:=z6}.af.cz) ({a1 with af:=z4,bL:=(cu.mk z5 a1.bL.At),Vars:=z6}.af.dO) ({a1 with af:=z4,bL:=(cu.mk z5 a1.bL.At),Vars:=z6}.af.gN) ({a1 with af:=z4,bL:=(cu.mk z5 a1.bL.At),Vars:=z6}.af.bF) ({a1 with af:=z4,bL:=(cu.mk z5 a1.bL.At),Vars:=z6}.af.cN) ({a1 with af:=z4,bL:=(cu.mk z5 a1.bL.At),Vars:=z6}.af.aS) (bQ.mk ({a1 with af:=z4,bL:=(cu.mk z5 a1.bL.At),Vars:=z6}.af.aT.bR) ({a1 with af:=z4,bL:=(cu.mk z5 a1.bL.At),Vars:=z6}.af.aT.bV) z4.aT.Cells) ({a1 with af:=z4,bL:=(cu.mk z5 a1.bL.At),Vars:=z6}.af.gZ) z4.bn) ({a1 with af:=z4,bL:=(cu.mk z5 a1.bL.At),Vars:=z6}.Neg) (cu.mk z5 ({a1 with af:=z4,bL:=(cu.mk z5 a1.bL.At),Vars:=z6}.bL.At)) z6 ({a1 with af:=z4,bL:=(cu.mk z5 a1.bL.At),Vars:=z6}.Keys) ({a1 with af:=z4,bL:=(cu.mk z5 a1.bL.At),Vars:=z6}.Mask) ({a1 with af:=z4,bL:=(cu.mk z5 a1.bL.At),Vars:=z6}.gS) ({a1 with af:=z4,bL:=(cu.mk z5 a1.bL.At),Vars:=z6}.lF)) (.d (.sl z4.aG.Cells.length (((ak.cells z4.aG.Cells).drop (0*ak.k)).take (z4.aG.Cells.length*ak.k)))) (.d (.sl z4.aT.Cells.length (((ak.cells z4.aT.Cells).drop (0*ak.k)).take (z4.aT.Cells.length*ak.k)))) (.d (.sl z4.bn.length (((b_.cells z4.bn).drop (0*b_.k)).take (z4.bn.length*b_.k)))) (.d (.sl z5.length (((dM.cells z5).drop (0*dM.k)).take (z5.length*dM.k)))) (.d (.sl z6.length (((cW.cells z6).drop (0*cW.k)).take (z6.length*cW.k))))))⟩)⟩:St)).trans (by simp only [cT.O8];kernel_rfl):dY c14.fin _=TA ({a1 with af:=z4,bL:=(cu.mk z5 a1.bL.At),Vars:=z6}))).trans amO)))))))))))))))))))))))))))
/- farwriter/press.code -/
def azw(r:Bool)(e:PX)(st:St):Prop:=aV c27 0 ((dB r),[]) e st
def f27(a1:Int):Option (Bool):=(bif (decide (0≤a1)) then (bif (decide (a1≤1114111)) then (bif (decide (a1<55296)) then (some true) else (bif (decide (57343<a1)) then (some true) else (some false))) else (some false)) else (some false))
theorem at7{d:Nat}(hd:1≤d){a1:Int}{r:Bool}(hS:f27 a1=some r):bW av aX d 27 [(dI a1)] []=some ((dB r),[]):=by
 refine cL azw hd (fun Q hQ=>?_) alD
 refine zS (zL 1 (zK (zS (zL 1 (sB 4 hS (fun hS=>?_) (fun hS=>?_))))))
 ·refine zL 2 (sB 7 hS (fun hS=>?_) (fun hS=>?_))
  ·refine zL 3 (sB 11 hS (fun hS=>?_) (fun hS=>?_))
   ·exact nL hS hQ
   ·refine zL 2 (sB 14 hS (fun hS=>?_) (fun hS=>?_))
    ·exact nL hS hQ
    ·exact nL hS hQ
  ·exact nL hS hQ
 ·exact nL hS hQ
/- strconv.Itoa -/
theorem kR{d:Nat}(hd:0≤d){a1:Int}{r:S8}(hS:dm a1=some r):bW av aX d 31 [(dI a1)] []=some ((.d (.str r)),[]):=oa (l:=libs) rfl rfl rfl (aBO hS) d
/- farwriter/press.letter -/
def amP(r:S8)(e:PX)(st:St):Prop:=aV c28 0 ((.d (.str r)),[]) e st
def af3(a1:S8)(a2:UInt8)(a3:Int):St:=⟨(up (up u0 2 (dI a3)) 1 (.d (.int .u8 (a2.toNat:Int)))),h0⟩
def ack(a1:S8)(a2:UInt8)(a3:Int):Option (S8):=((dm (IntKind.i64.wrap (a3+1))).bind fun z8=>((ep ([27,91,49,59]:S8) z8).bind fun z9=>((ep z9 ((Utf8.encode (a2.toNat:Int)).data.toList)).bind fun dG=>(some dG))))
theorem Xr(hd:1≤d){a1:S8}{a2:UInt8}{a3:Int}{r:S8}(hQ:FQ (amP r) Q)(hS:ack a1 a2 a3=some r): ∀st,au [1,2] [] [] st=af3 a1 a2 a3→ZX d Q aj3 [] st:=by
 intro st he
 exact ay he (zS (zL 2 (aq hS (fun z8 je hS=>zC 17 (kR (aU hd rfl) je) (aq hS (fun z9 jI hS=>zO (v:=(.d (.str z9))) (aD:= []) (some 18) (.jD .add (.const (.string ⟨#[27,91,49,59]⟩)) (tm 17)) (gJ (a:= [27,91,49,59]) (c:=z8) (by kernel_rfl) (by kernel_rfl) jI) (zL 1 (zO (v:=(.d (.int .i32 (a2.toNat:Int)))) (aD:= []) (some 20) (.ku .i32 (tm 19)) (gC (kk:= .u8) (a:=(a2.toNat:Int)) (by kernel_rfl) (Zu _)) (zL 1 (aq hS (fun dG jF hS=>zO (v:=(.d (.str dG))) (aD:= []) (some 22) (.jD .add (tm 18) (tm 21)) (gJ (a:=z9) (c:=(Utf8.encode (a2.toNat:Int)).data.toList) (by kernel_rfl) (by kernel_rfl) jF) (nL hS hQ))))))))))))
def f28(a1:S8)(a2:UInt8)(a3:Int):Option (S8):=(bif (decide (a3=0)) then ((ep ([27]:S8) a1).bind fun cS=>((ep cS ((Utf8.encode (a2.toNat:Int)).data.toList)).bind fun z12=>(some z12))) else (ack a1 a2 a3))
theorem acm{d:Nat}(hd:1≤d){a1:S8}{a2:UInt8}{a3:Int}{r:S8}(hS:f28 a1 a2 a3=some r):bW av aX d 28 [(.d (.str a1)),(.d (.int .u8 (a2.toNat:Int))),(dI a3)] []=some ((.d (.str r)),[]):=by
 refine cL amP hd (fun Q hQ=>?_) alE
 refine zS (zL 1 (zK (aC (zS (zL 1 (sB 8 hS (fun hS=>?_) (fun hS=>?_)))))))
 ·exact zK (zT (zS (zL 1 (aq hS (fun cS kf hS=>zO (v:=(.d (.str cS))) (aD:= []) (some 10) (.jD .add (.const (.string ⟨#[27]⟩)) (tm 9)) (gJ (a:= [27]) (c:=a1) (by kernel_rfl) (by kernel_rfl) kf) (zL 1 (zO (v:=(.d (.int .i32 (a2.toNat:Int)))) (aD:= []) (some 12) (.ku .i32 (tm 11)) (gC (kk:= .u8) (a:=(a2.toNat:Int)) (by kernel_rfl) (Zu _)) (zL 1 (aq hS (fun z12 gO hS=>zO (v:=(.d (.str z12))) (aD:= []) (some 14) (.jD .add (tm 10) (tm 13)) (gJ (a:=cS) (c:=(Utf8.encode (a2.toNat:Int)).data.toList) (by kernel_rfl) (by kernel_rfl) gO) (nL hS hQ)))))))))))
 ·exact jL (Xr hd hQ hS)
/- farwriter/press.numbered -/
def azx(r:S8)(e:PX)(st:St):Prop:=aV c29 0 ((.d (.str r)),[]) e st
def f29(a1 a2:Int):Option (S8):=((dm a1).bind fun z9=>((ep ([27,91]:S8) z9).bind fun dG=>(bif (!decide (a2=0)) then ((dm (IntKind.i64.wrap (a2+1))).bind fun cS=>((ep ([59]:S8) cS).bind fun z12=>((ep dG z12).bind fun dP=>((ep dP ([126]:S8)).bind fun dU=>(some dU))))) else ((ep dG ([126]:S8)).bind fun fk=>(some fk)))))
theorem acn{d:Nat}(hd:1≤d){a1 a2:Int}{r:S8}(hS:f29 a1 a2=some r):bW av aX d 29 [(dI a1),(dI a2)] []=some ((.d (.str r)),[]):=by
 refine cL azx hd (fun Q hQ=>?_) alF
 refine zS (zL 1 (zK (zS (zL 1 (aq hS (fun z9 jI hS=>zC 7 (kR (aU hd rfl) jI) (aq hS (fun dG jF hS=>zO (v:=(.d (.str dG))) (aD:= []) (some 8) (.jD .add (.const (.string ⟨#[27,91]⟩)) (tm 7)) (gJ (a:= [27,91]) (c:=z9) (by kernel_rfl) (by kernel_rfl) jF) (zL 1 (zK (aC (zS (zL 1 (sB 10 hS (fun hS=>?_) (fun hS=>?_)))))))))))))))
 ·exact zK (zT (a_ (zL 3 (aq hS (fun cS kf hS=>zC 14 (kR (aU hd rfl) kf) (aq hS (fun z12 gO hS=>zO (v:=(.d (.str z12))) (aD:= []) (some 15) (.jD .add (.const (.string ⟨#[59]⟩)) (tm 14)) (gJ (a:= [59]) (c:=cS) (by kernel_rfl) (by kernel_rfl) gO) (aq hS (fun dP jn hS=>zO (v:=(.d (.str dP))) (aD:= []) (some 16) (.jD .add (tm 11) (tm 15)) (gJ (a:=dG) (c:=z12) (by kernel_rfl) (by kernel_rfl) jn) (zL 1 (zK (zS (zL 1 (aq hS (fun dU kg hS=>zO (v:=(.d (.str dU))) (aD:= []) (some 18) (.jD .add (tm 17) (.const (.string ⟨#[126]⟩))) (gJ (a:=dP) (c:= [126]) (by kernel_rfl) (by kernel_rfl) kg) (nL hS hQ))))))))))))))))
 ·exact zK (zF (fP (cj (zS (zL 1 (aq hS (fun fk kX hS=>zO (v:=(.d (.str fk))) (aD:= []) (some 18) (.jD .add (tm 17) (.const (.string ⟨#[126]⟩))) (gJ (a:=dG) (c:= [126]) (by kernel_rfl) (by kernel_rfl) kX) (nL hS hQ))))))))
/- unicode/utf8.appendRuneNonASCII -/
def aco(r:S8)(e:PX)(st:St):Prop:=aV ZO 1 ((.r (.aJ 0 0 0 r.length)),[(.own 5 1 (cH.cells r))]) e st
def Xs(a1:Int)(a2:S8)(mZ:Bool):St:=⟨(up (up (up (up (up u0 1000000 .un) 25 (dB mZ)) 5 (.d (.int .u32 (IntKind.u32.wrap (a1))))) 1 (.d (.int .i32 a1))) 0 (.r (.aJ 0 1 0 a2.length))),(up h0 0 ⟨1,some (.own 5 1 (cH.cells a2))⟩)⟩
def rS(a1:Int)(a2:S8)(mZ:Bool):Option (S8):=(bif mZ then ((eN 1 a2 ([((224:UInt8) ||| (u8 (Int.fdiv a1 (2^12)))),((128:UInt8) ||| ((u8 (Int.fdiv a1 (2^6)))&&&(63:UInt8))),((128:UInt8) ||| ((u8 a1)&&&(63:UInt8)))]:S8)).bind fun z6=>(some z6)) else (bif (decide (65535<(IntKind.u32.wrap (a1)))) then (bif (decide ((IntKind.u32.wrap (a1))≤1114111)) then ((eN 1 a2 ([((240:UInt8) ||| (u8 (Int.fdiv a1 (2^18)))),((128:UInt8) ||| ((u8 (Int.fdiv a1 (2^12)))&&&(63:UInt8))),((128:UInt8) ||| ((u8 (Int.fdiv a1 (2^6)))&&&(63:UInt8))),((128:UInt8) ||| ((u8 a1)&&&(63:UInt8)))]:S8)).bind fun z7=>(some z7)) else ((eN 1 a2 ([239,191,189]:S8)).bind fun z8=>(some z8))) else ((eN 1 a2 ([239,191,189]:S8)).bind fun z9=>(some z9))))
theorem s6(hd:1≤d){a1:Int}{a2 r:S8}(hQ:FQ (aco r) Q){mZ:Bool}(hS:rS a1 a2 mZ=some r): ∀st,au [0,1,5,25,1000000] [(0,.id 0)] [] st=Xs a1 a2 mZ→ZX d Q ZN [.blk 0] st:=by
 intro st he
 refine ay he (sR 25 hS (fun hS=>?_) (fun hS=>?_))
 ·exact zT (zS (zL 3 (zO (v:=(.d (.int .u8 ((u8 (Int.fdiv a1 (2^12))).toNat:Int)))) (aD:= []) (some 37) (.ku .u8 (tm 36)) (gC (kk:= .i32) (a:=(Int.fdiv a1 (2^12))) (by kernel_rfl) (iq _)) (zO (v:=(.d (.int .u8 (((224:UInt8) ||| (u8 (Int.fdiv a1 (2^12)))).toNat:Int)))) (aD:= []) (some 38) (.qK .or (.const (.int .u8 224)) (tm 37)) (iW (kk:= .u8) (a:=((224:UInt8).toNat:Int)) (c:=((u8 (Int.fdiv a1 (2^12))).toNat:Int)) (by kernel_rfl) (by kernel_rfl) (qd (224:UInt8) (u8 (Int.fdiv a1 (2^12))))) (zL 2 (zO (v:=(.d (.int .u8 ((u8 (Int.fdiv a1 (2^6))).toNat:Int)))) (aD:= []) (some 41) (.ku .u8 (tm 40)) (gC (kk:= .i32) (a:=(Int.fdiv a1 (2^6))) (by kernel_rfl) (iq _)) (zO (v:=(.d (.int .u8 (((u8 (Int.fdiv a1 (2^6)))&&&(63:UInt8)).toNat:Int)))) (aD:= []) (some 42) (.qK .and (tm 41) (.const (.int .u8 63))) (iW (kk:= .u8) (a:=((u8 (Int.fdiv a1 (2^6))).toNat:Int)) (c:=((63:UInt8).toNat:Int)) (by kernel_rfl) (by kernel_rfl) (t_ (u8 (Int.fdiv a1 (2^6))) (63:UInt8))) (zO (v:=(.d (.int .u8 (((128:UInt8) ||| ((u8 (Int.fdiv a1 (2^6)))&&&(63:UInt8))).toNat:Int)))) (aD:= []) (some 43) (.qK .or (.const (.int .u8 128)) (tm 42)) (iW (kk:= .u8) (a:=((128:UInt8).toNat:Int)) (c:=(((u8 (Int.fdiv a1 (2^6)))&&&(63:UInt8)).toNat:Int)) (by kernel_rfl) (by kernel_rfl) (qd (128:UInt8) ((u8 (Int.fdiv a1 (2^6)))&&&(63:UInt8)))) (zL 1 (zO (v:=(.d (.int .u8 ((u8 a1).toNat:Int)))) (aD:= []) (some 45) (.ku .u8 (tm 44)) (gC (kk:= .i32) (a:=a1) (by kernel_rfl) (iq _)) (zO (v:=(.d (.int .u8 (((u8 a1)&&&(63:UInt8)).toNat:Int)))) (aD:= []) (some 46) (.qK .and (tm 45) (.const (.int .u8 63))) (iW (kk:= .u8) (a:=((u8 a1).toNat:Int)) (c:=((63:UInt8).toNat:Int)) (by kernel_rfl) (by kernel_rfl) (t_ (u8 a1) (63:UInt8))) (zO (v:=(.d (.int .u8 (((128:UInt8) ||| ((u8 a1)&&&(63:UInt8))).toNat:Int)))) (aD:= []) (some 47) (.qK .or (.const (.int .u8 128)) (tm 46)) (iW (kk:= .u8) (a:=((128:UInt8).toNat:Int)) (c:=(((u8 a1)&&&(63:UInt8)).toNat:Int)) (by kernel_rfl) (by kernel_rfl) (qd (128:UInt8) ((u8 a1)&&&(63:UInt8)))) (zL 1 (aq hS (fun z6 nH hS=>zO (v:=(.r (.aJ 0 2 0 z6.length))) (aD:= [(0,⟨2,some (.own 5 1 (cH.cells z6))⟩)]) (some 49) (.app 5 1 1 (tm 34) (tm 48)) (eL cH (b:=0) (g:=1) (n:=a2.length) (xs:=a2) (ys:= [((224:UInt8) ||| (u8 (Int.fdiv a1 (2^12)))),((128:UInt8) ||| ((u8 (Int.fdiv a1 (2^6)))&&&(63:UInt8))),((128:UInt8) ||| ((u8 a1)&&&(63:UInt8)))]) ((congrArg (fJ _) (by kernel_rfl:bU _ (.tmp 48)=(.r (.aJ 392 1 0 (([((224:UInt8) ||| (u8 (Int.fdiv a1 (2^12)))),((128:UInt8) ||| ((u8 (Int.fdiv a1 (2^6)))&&&(63:UInt8))),((128:UInt8) ||| ((u8 a1)&&&(63:UInt8)))]:S8).length))))).trans (cX cH (e:=5) (k:=1) (xs:= [((224:UInt8) ||| (u8 (Int.fdiv a1 (2^12)))),((128:UInt8) ||| ((u8 (Int.fdiv a1 (2^6)))&&&(63:UInt8))),((128:UInt8) ||| ((u8 a1)&&&(63:UInt8)))]) (by kernel_rfl) rfl rfl)) rfl (by kernel_rfl) rfl (by kernel_rfl) rfl nH) (nL hS hQ))))))))))))))))
 ·refine zF (zS (zL 1 (sB 52 hS (fun hS=>?_) (fun hS=>?_))))
  ·refine zL 2 (sB 55 hS (fun hS=>?_) (fun hS=>?_))
   ·exact zL 2 (zK (zT (zS (zL 3 (zO (v:=(.d (.int .u8 ((u8 (Int.fdiv a1 (2^18))).toNat:Int)))) (aD:= []) (some 60) (.ku .u8 (tm 59)) (gC (kk:= .i32) (a:=(Int.fdiv a1 (2^18))) (by kernel_rfl) (iq _)) (zO (v:=(.d (.int .u8 (((240:UInt8) ||| (u8 (Int.fdiv a1 (2^18)))).toNat:Int)))) (aD:= []) (some 61) (.qK .or (.const (.int .u8 240)) (tm 60)) (iW (kk:= .u8) (a:=((240:UInt8).toNat:Int)) (c:=((u8 (Int.fdiv a1 (2^18))).toNat:Int)) (by kernel_rfl) (by kernel_rfl) (qd (240:UInt8) (u8 (Int.fdiv a1 (2^18))))) (zL 2 (zO (v:=(.d (.int .u8 ((u8 (Int.fdiv a1 (2^12))).toNat:Int)))) (aD:= []) (some 64) (.ku .u8 (tm 63)) (gC (kk:= .i32) (a:=(Int.fdiv a1 (2^12))) (by kernel_rfl) (iq _)) (zO (v:=(.d (.int .u8 (((u8 (Int.fdiv a1 (2^12)))&&&(63:UInt8)).toNat:Int)))) (aD:= []) (some 65) (.qK .and (tm 64) (.const (.int .u8 63))) (iW (kk:= .u8) (a:=((u8 (Int.fdiv a1 (2^12))).toNat:Int)) (c:=((63:UInt8).toNat:Int)) (by kernel_rfl) (by kernel_rfl) (t_ (u8 (Int.fdiv a1 (2^12))) (63:UInt8))) (zO (v:=(.d (.int .u8 (((128:UInt8) ||| ((u8 (Int.fdiv a1 (2^12)))&&&(63:UInt8))).toNat:Int)))) (aD:= []) (some 66) (.qK .or (.const (.int .u8 128)) (tm 65)) (iW (kk:= .u8) (a:=((128:UInt8).toNat:Int)) (c:=(((u8 (Int.fdiv a1 (2^12)))&&&(63:UInt8)).toNat:Int)) (by kernel_rfl) (by kernel_rfl) (qd (128:UInt8) ((u8 (Int.fdiv a1 (2^12)))&&&(63:UInt8)))) (zL 2 (zO (v:=(.d (.int .u8 ((u8 (Int.fdiv a1 (2^6))).toNat:Int)))) (aD:= []) (some 69) (.ku .u8 (tm 68)) (gC (kk:= .i32) (a:=(Int.fdiv a1 (2^6))) (by kernel_rfl) (iq _)) (zO (v:=(.d (.int .u8 (((u8 (Int.fdiv a1 (2^6)))&&&(63:UInt8)).toNat:Int)))) (aD:= []) (some 70) (.qK .and (tm 69) (.const (.int .u8 63))) (iW (kk:= .u8) (a:=((u8 (Int.fdiv a1 (2^6))).toNat:Int)) (c:=((63:UInt8).toNat:Int)) (by kernel_rfl) (by kernel_rfl) (t_ (u8 (Int.fdiv a1 (2^6))) (63:UInt8))) (zO (v:=(.d (.int .u8 (((128:UInt8) ||| ((u8 (Int.fdiv a1 (2^6)))&&&(63:UInt8))).toNat:Int)))) (aD:= []) (some 71) (.qK .or (.const (.int .u8 128)) (tm 70)) (iW (kk:= .u8) (a:=((128:UInt8).toNat:Int)) (c:=(((u8 (Int.fdiv a1 (2^6)))&&&(63:UInt8)).toNat:Int)) (by kernel_rfl) (by kernel_rfl) (qd (128:UInt8) ((u8 (Int.fdiv a1 (2^6)))&&&(63:UInt8)))) (zL 1 (zO (v:=(.d (.int .u8 ((u8 a1).toNat:Int)))) (aD:= []) (some 73) (.ku .u8 (tm 72)) (gC (kk:= .i32) (a:=a1) (by kernel_rfl) (iq _)) (zO (v:=(.d (.int .u8 (((u8 a1)&&&(63:UInt8)).toNat:Int)))) (aD:= []) (some 74) (.qK .and (tm 73) (.const (.int .u8 63))) (iW (kk:= .u8) (a:=((u8 a1).toNat:Int)) (c:=((63:UInt8).toNat:Int)) (by kernel_rfl) (by kernel_rfl) (t_ (u8 a1) (63:UInt8))) (zO (v:=(.d (.int .u8 (((128:UInt8) ||| ((u8 a1)&&&(63:UInt8))).toNat:Int)))) (aD:= []) (some 75) (.qK .or (.const (.int .u8 128)) (tm 74)) (iW (kk:= .u8) (a:=((128:UInt8).toNat:Int)) (c:=(((u8 a1)&&&(63:UInt8)).toNat:Int)) (by kernel_rfl) (by kernel_rfl) (qd (128:UInt8) ((u8 a1)&&&(63:UInt8)))) (zL 1 (aq hS (fun z7 l8 hS=>zO (v:=(.r (.aJ 0 2 0 z7.length))) (aD:= [(0,⟨2,some (.own 5 1 (cH.cells z7))⟩)]) (some 77) (.app 5 1 1 (tm 57) (tm 76)) (eL cH (b:=0) (g:=1) (n:=a2.length) (xs:=a2) (ys:= [((240:UInt8) ||| (u8 (Int.fdiv a1 (2^18)))),((128:UInt8) ||| ((u8 (Int.fdiv a1 (2^12)))&&&(63:UInt8))),((128:UInt8) ||| ((u8 (Int.fdiv a1 (2^6)))&&&(63:UInt8))),((128:UInt8) ||| ((u8 a1)&&&(63:UInt8)))]) ((congrArg (fJ _) (by kernel_rfl:bU _ (.tmp 76)=(.r (.aJ 616 1 0 (([((240:UInt8) ||| (u8 (Int.fdiv a1 (2^18)))),((128:UInt8) ||| ((u8 (Int.fdiv a1 (2^12)))&&&(63:UInt8))),((128:UInt8) ||| ((u8 (Int.fdiv a1 (2^6)))&&&(63:UInt8))),((128:UInt8) ||| ((u8 a1)&&&(63:UInt8)))]:S8).length))))).trans (cX cH (e:=5) (k:=1) (xs:= [((240:UInt8) ||| (u8 (Int.fdiv a1 (2^18)))),((128:UInt8) ||| ((u8 (Int.fdiv a1 (2^12)))&&&(63:UInt8))),((128:UInt8) ||| ((u8 (Int.fdiv a1 (2^6)))&&&(63:UInt8))),((128:UInt8) ||| ((u8 a1)&&&(63:UInt8)))]) (by kernel_rfl) rfl rfl)) rfl (by kernel_rfl) rfl (by kernel_rfl) rfl l8) (nL hS hQ))))))))))))))))))))))
   ·exact zL 2 (zK (zF (zS (zL 2 (aq hS (fun z8 je hS=>zO (v:=(.r (.aJ 0 2 0 z8.length))) (aD:= [(0,⟨2,some (.own 5 1 (cH.cells z8))⟩)]) (some 10) (.app 5 1 1 (tm 8) (tm 9)) (eL cH (b:=0) (g:=1) (n:=a2.length) (xs:=a2) (ys:= [239,191,189]) ((congrArg (fJ _) (by kernel_rfl:bU _ (.tmp 9)=(.r (.aJ 80 1 0 (([239,191,189]:S8).length))))).trans (cX cH (e:=5) (k:=1) (xs:= [239,191,189]) (by kernel_rfl) rfl rfl)) rfl (by kernel_rfl) rfl (by kernel_rfl) rfl je) (nL hS hQ)))))))
  ·exact zL 5 (zK (zF (zS (zL 2 (aq hS (fun z9 jI hS=>zO (v:=(.r (.aJ 0 2 0 z9.length))) (aD:= [(0,⟨2,some (.own 5 1 (cH.cells z9))⟩)]) (some 10) (.app 5 1 1 (tm 8) (tm 9)) (eL cH (b:=0) (g:=1) (n:=a2.length) (xs:=a2) (ys:= [239,191,189]) ((congrArg (fJ _) (by kernel_rfl:bU _ (.tmp 9)=(.r (.aJ 80 1 0 (([239,191,189]:S8).length))))).trans (cX cH (e:=5) (k:=1) (xs:= [239,191,189]) (by kernel_rfl) rfl rfl)) rfl (by kernel_rfl) rfl (by kernel_rfl) rfl jI) (nL hS hQ)))))))
def f160(a1:Int)(a2:S8):Option (S8):=(bif (decide ((IntKind.u32.wrap (a1))≤2047)) then ((eN 1 a2 ([((192:UInt8) ||| (u8 (Int.fdiv a1 (2^6)))),((128:UInt8) ||| ((u8 a1)&&&(63:UInt8)))]:S8)).bind fun z5=>(some z5)) else (bif (decide ((IntKind.u32.wrap (a1))<55296)) then (rS a1 a2 true) else (bif (decide (57343<(IntKind.u32.wrap (a1)))) then (bif (decide ((IntKind.u32.wrap (a1))≤65535)) then (rS a1 a2 true) else (rS a1 a2 false)) else (rS a1 a2 false))))
theorem amQ{d:Nat}(hd:1≤d){a1:Int}{a2 r:S8}(hS:f160 a1 a2=some r):bW av aX d 160 [(.r (.aJ 0 0 0 a2.length)),(.d (.int .i32 a1))] [(.own 5 1 (cH.cells a2))]=some ((.r (.aJ 0 0 0 r.length)),[(.own 5 1 (cH.cells r))]):=by
 refine cL aco hd (fun Q hQ=>?_) aek
 refine zS (zL 1 (zK (zS (zL 3 (zK (bz (zS (zL 1 (sB 13 hS (fun hS=>?_) (fun hS=>?_))))))))))
 ·exact zL 1 (zK (zT (zS (zL 3 (zO (v:=(.d (.int .u8 ((u8 (Int.fdiv a1 (2^6))).toNat:Int)))) (aD:= []) (some 17) (.ku .u8 (tm 16)) (gC (kk:= .i32) (a:=(Int.fdiv a1 (2^6))) (by kernel_rfl) (iq _)) (zO (v:=(.d (.int .u8 (((192:UInt8) ||| (u8 (Int.fdiv a1 (2^6)))).toNat:Int)))) (aD:= []) (some 18) (.qK .or (.const (.int .u8 192)) (tm 17)) (iW (kk:= .u8) (a:=((192:UInt8).toNat:Int)) (c:=((u8 (Int.fdiv a1 (2^6))).toNat:Int)) (by kernel_rfl) (by kernel_rfl) (qd (192:UInt8) (u8 (Int.fdiv a1 (2^6))))) (zL 1 (zO (v:=(.d (.int .u8 ((u8 a1).toNat:Int)))) (aD:= []) (some 20) (.ku .u8 (tm 19)) (gC (kk:= .i32) (a:=a1) (by kernel_rfl) (iq _)) (zO (v:=(.d (.int .u8 (((u8 a1)&&&(63:UInt8)).toNat:Int)))) (aD:= []) (some 21) (.qK .and (tm 20) (.const (.int .u8 63))) (iW (kk:= .u8) (a:=((u8 a1).toNat:Int)) (c:=((63:UInt8).toNat:Int)) (by kernel_rfl) (by kernel_rfl) (t_ (u8 a1) (63:UInt8))) (zO (v:=(.d (.int .u8 (((128:UInt8) ||| ((u8 a1)&&&(63:UInt8))).toNat:Int)))) (aD:= []) (some 22) (.qK .or (.const (.int .u8 128)) (tm 21)) (iW (kk:= .u8) (a:=((128:UInt8).toNat:Int)) (c:=(((u8 a1)&&&(63:UInt8)).toNat:Int)) (by kernel_rfl) (by kernel_rfl) (qd (128:UInt8) ((u8 a1)&&&(63:UInt8)))) (zL 1 (aq hS (fun z5 jZ hS=>zO (v:=(.r (.aJ 0 1 0 z5.length))) (aD:= [(0,⟨1,some (.own 5 1 (cH.cells z5))⟩)]) (some 24) (.app 5 1 1 (tm 14) (tm 23)) (eL cH (b:=0) (g:=0) (n:=a2.length) (xs:=a2) (ys:= [((192:UInt8) ||| (u8 (Int.fdiv a1 (2^6)))),((128:UInt8) ||| ((u8 a1)&&&(63:UInt8)))]) ((congrArg (fJ _) (by kernel_rfl:bU _ (.tmp 23)=(.r (.aJ 192 1 0 (([((192:UInt8) ||| (u8 (Int.fdiv a1 (2^6)))),((128:UInt8) ||| ((u8 a1)&&&(63:UInt8)))]:S8).length))))).trans (cX cH (e:=5) (k:=1) (xs:= [((192:UInt8) ||| (u8 (Int.fdiv a1 (2^6)))),((128:UInt8) ||| ((u8 a1)&&&(63:UInt8)))]) (by kernel_rfl) rfl rfl)) rfl (by kernel_rfl) rfl (by kernel_rfl) rfl jZ) (nL hS hQ))))))))))))))
 ·refine zL 1 (zK (zF (aC (zS (zL 1 (sB 27 hS (fun hS=>?_) (fun hS=>?_)))))))
  ·exact jL (s6 hd hQ hS)
  ·refine zL 1 (zK (zF (a_ (zL 1 (sB 29 hS (fun hS=>?_) (fun hS=>?_))))))
   ·refine zL 2 (sB 32 hS (fun hS=>?_) (fun hS=>?_))
    ·exact zL 2 (zK (s6 hd hQ hS _ (by kernel_rfl)))
    ·exact zL 2 (zK (s6 hd hQ hS _ (by kernel_rfl)))
   ·exact jL (s6 hd hQ hS)
/- unicode/utf8.AppendRune -/
def at8(r:S8)(e:PX)(st:St):Prop:=aV ZP 1 ((.r (.aJ 0 0 0 r.length)),[(.own 5 1 (cH.cells r))]) e st
def f115(a1:Int)(a2:S8):Option (S8):=(bif (decide ((IntKind.u32.wrap (a1))≤127)) then ((eN 1 a2 ([(u8 a1)]:S8)).bind fun z3=>(some z3)) else ((f160 a1 a2).bind fun z4=>(some z4)))
theorem xH{d:Nat}(hd:2≤d){a1:Int}{a2 r:S8}(hS:f115 a1 a2=some r):bW av aX d 115 [(.r (.aJ 0 0 0 a2.length)),(.d (.int .i32 a1))] [(.own 5 1 (cH.cells a2))]=some ((.r (.aJ 0 0 0 r.length)),[(.own 5 1 (cH.cells r))]):=by
 refine cL at8 hd (fun Q hQ=>?_) aec
 refine zS (zL 1 (zK (aC (zS (zL 2 (sB 7 hS (fun hS=>?_) (fun hS=>?_)))))))
 ·exact zK (zT (zS (zL 2 (zO (v:=(.d (.int .u8 ((u8 a1).toNat:Int)))) (aD:= []) (some 10) (.ku .u8 (tm 9)) (gC (kk:= .i32) (a:=a1) (by kernel_rfl) (iq _)) (zL 1 (aq hS (fun z3 hz3 hS=>zO (v:=(.r (.aJ 0 1 0 z3.length))) (aD:= [(0,⟨1,some (.own 5 1 (cH.cells z3))⟩)]) (some 12) (.app 5 1 1 (tm 8) (tm 11)) (eL cH (b:=0) (g:=0) (n:=a2.length) (xs:=a2) (ys:= [(u8 a1)]) ((congrArg (fJ _) (by kernel_rfl:bU _ (.tmp 11)=(.r (.aJ 96 1 0 (([(u8 a1)]:S8).length))))).trans (cX cH (e:=5) (k:=1) (xs:= [(u8 a1)]) (by kernel_rfl) rfl rfl)) rfl (by kernel_rfl) rfl (by kernel_rfl) rfl hz3) (nL hS hQ))))))))
 ·exact zK (zF (fP (cj (zS (zL 2 (aq hS (fun z4 jf hS=>fS 15 [0] (amQ (aU hd rfl) jf) (nL hS hQ))))))))
/- farwriter/utf.Encode -/
def azy(r:S8)(e:PX)(st:St):Prop:=aV c78 0 ((.d (.str r)),[]) e st
def af4(a1:List Int)(x:S8×Int):St:=⟨(up (up (up (up u0 8 (dI x.2)) 7 (dI (a1.length:Int))) 6 (dL a1)) 3 (.r (.aJ 32 0 0 x.1.length))),(up h0 32 ⟨0,some (.own 5 1 (cH.cells x.1))⟩)⟩
def uK(a1:List Int)(x:S8×Int)(st:St):Prop:=au [3,6,7,8] [(32,.id 32)] [] st=af4 a1 x
def DN(a1:List Int)(mP:S8):St:=⟨(up u0 3 (.r (.aJ 32 0 0 mP.length))),(up h0 32 ⟨0,some (.own 5 1 (cH.cells mP))⟩)⟩
def zQ(a1:List Int)(z:(S8))(e:PX)(st:St):Prop:=e= .exit 0∧st=DN a1 z
def QA(a1:List Int)(eX:S8)(fV:Int):St:=⟨(up (up (up (up u0 8 (dI fV)) 7 (dI (a1.length:Int))) 6 (dL a1)) 3 (.r (.aJ 32 0 0 eX.length))),(up h0 32 ⟨0,some (.own 5 1 (cH.cells eX))⟩)⟩
def vL(a1:List Int)(eX:S8)(fV:Int):Option ((S8×Int)⊕((S8))):=((idx a1 fV).bind fun z7=>(bif (decide (z7<0)) then ((f115 65533 eX).bind fun z8=>(some (.inl (z8,(IntKind.i64.wrap (fV+1)))))) else (bif (decide (1114111<z7)) then ((f115 65533 eX).bind fun z9=>(some (.inl (z9,(IntKind.i64.wrap (fV+1)))))) else (bif (decide (55296≤z7)) then (bif (decide (z7≤57343)) then ((f115 65533 eX).bind fun dG=>(some (.inl (dG,(IntKind.i64.wrap (fV+1)))))) else ((f115 (IntKind.i32.wrap (z7)) eX).bind fun cS=>(some (.inl (cS,(IntKind.i64.wrap (fV+1))))))) else ((f115 (IntKind.i32.wrap (z7)) eX).bind fun z12=>(some (.inl (z12,(IntKind.i64.wrap (fV+1))))))))))
theorem LS(hd:3≤d){a1:List Int}{r:(S8×Int)⊕((S8))}(hQ:FQ (bG (uK a1) (zQ a1) r) Q){eX:S8}{fV:Int}(hS:vL a1 eX fV=some r): ∀st,au [3,6,7,8] [(32,.id 32)] [] st=QA a1 eX fV→ZX d Q aj6 [] st:=by
 intro st he
 refine ay he (aC (bz (zS (aq hS (fun z7 l8 hS=>zO (v:=(.cD (eI.enc z7++(eI.cells (a1.drop ((fV:Int).toNat+1)))))) (aD:= []) (some 10) (.jz 3 1 (tm 6) (tm 8)) (fQ eI (kk:= .i64) (xs:=a1) (j:=fV) (by kernel_rfl) (by kernel_rfl) l8 rfl (by intro h;cases h)) (zL 2 (zK (aC (zS (zL 1 (sB 13 hS (fun hS=>?_) (fun hS=>?_))))))))))))
 ·exact zL 12 (zK (zT (a_ (zL 1 (zK (a_ (zL 3 (aq hS (fun z8 je hS=>fS 29 [32] (xH (aU hd rfl) je) (lL hS hQ))))))))))
 ·refine zL 2 (sB 16 hS (fun hS=>?_) (fun hS=>?_))
  ·exact zL 9 (zK (zT (a_ (zL 1 (zK (a_ (zL 3 (aq hS (fun z9 jI hS=>fS 29 [32] (xH (aU hd rfl) jI) (lL hS hQ))))))))))
  ·refine zL 3 (sB 20 hS (fun hS=>?_) (fun hS=>?_))
   ·refine zL 2 (sB 23 hS (fun hS=>?_) (fun hS=>?_))
    ·exact zL 2 (zK (zT (a_ (zL 1 (zK (a_ (zL 3 (aq hS (fun dG jF hS=>fS 29 [32] (xH (aU hd rfl) jF) (lL hS hQ))))))))))
    ·exact zL 2 (zK (zF (fP (cj (a_ (zL 3 (aq hS (fun cS kf hS=>fS 29 [32] (xH (aU hd rfl) kf) (lL hS hQ)))))))))
   ·exact zL 5 (zK (zF (fP (cj (a_ (zL 3 (aq hS (fun z12 gO hS=>fS 29 [32] (xH (aU hd rfl) gO) (lL hS hQ)))))))))
def QB(a1:List Int)(jg:S8)(h_:Int)(kH:Bool):St:=⟨(up (up (up (up (up u0 9 (dB kH)) 8 (dI h_)) 7 (dI (a1.length:Int))) 6 (dL a1)) 3 (.r (.aJ 32 0 0 jg.length))),(up h0 32 ⟨0,some (.own 5 1 (cH.cells jg))⟩)⟩
def mb(a1:List Int)(jg:S8)(h_:Int)(kH:Bool):Option ((S8×Int)⊕((S8))):=(bif kH then (vL a1 jg h_) else (some (.inr jg)))
theorem A6(hd:3≤d){a1:List Int}{r:(S8×Int)⊕((S8))}(hQ:FQ (bG (uK a1) (zQ a1) r) Q){jg:S8}{h_:Int}{kH:Bool}(hS:mb a1 jg h_ kH=some r): ∀st,au [3,6,7,8,9] [(32,.id 32)] [] st=QB a1 jg h_ kH→ZX d Q aj7 [] st:=by
 intro st he
 refine ay he (aC (sR 9 hS (fun hS=>?_) (fun hS=>?_)))
 ·exact jR (LS hd hQ hS)
 ·exact zF (ay (J:=DN a1 jg) (by kernel_rfl) (dh (cY (bk (jA hS hQ)))))
def qo(a1:List Int)(x:S8×Int):Option ((S8×Int)⊕((S8))):=(bif (decide (x.2<(a1.length:Int))) then (mb a1 x.1 x.2 true) else (mb a1 x.1 x.2 false))
theorem Xt(hd:3≤d){a1:List Int}{r:(S8×Int)⊕((S8))}(hQ:FQ (bG (uK a1) (zQ a1) r) Q){x:S8×Int}(hS:qo a1 x=some r)(he:uK a1 x st):ZX d Q aj8 [] st:=by
 refine ay he (zS (sB 9 hS (fun hS=>?_) (fun hS=>?_)))
 ·exact zK (A6 hd hQ hS _ (by kernel_rfl))
 ·exact jL (A6 hd hQ hS)
def f78(a1:List Int):Option (S8):=((b9 (qo a1) ([],0)).bind fun dP=>(some dP))
theorem zR{d:Nat}(hd:3≤d){a1:List Int}{r:S8}(hS:f78 a1=some r):bW av aX d 78 [(dL a1)] []=some ((.d (.str r)),[]):=by
 refine cL azy hd (fun Q hQ=>?_) al8
 refine zS (zL 1 (zK (zS (zL 1 (zK (aC (zS (zL 3 (zK (bz (aq hS (fun dP jn hS=>dN (uK a1) (zQ a1) (fun x st r Q h0 hS hQ=>Xt hd hQ hS h0) (x:=([],0)) (z:=dP) (by show au _ _ _ _=_;kernel_rfl) jn ?_))))))))))))
 intro e bl _ hX
 obtain ⟨rfl,rfl⟩:_∧_:=hX
 exact j9 (cj (zS (zL 1 (zO (v:=(.d (.str dP))) (aD:= []) (some 32) (.sS (tm 31)) (CZ (s:=dP) ((congrArg (fJ _) (by kernel_rfl:bU _ (.tmp 31)=(.r (.aJ 32 0 0 dP.length)))).trans (cX cH (e:=5) (k:=1) (xs:=dP) (by kernel_rfl) rfl rfl)) rfl) (nL hS hQ)))))
/- farwriter/press.character -/
def Xu(r:S8)(e:PX)(st:St):Prop:=aV c65 0 ((.d (.str r)),[]) e st
def af5(a1 a2:Int):St:=⟨(up u0 0 (dI a1)),h0⟩
def DO(a1 a2:Int):Option (S8):=((f78 [(cO .and .i64 a1 31)]).bind fun z2=>(some z2))
theorem Ca(hd:4≤d){a1 a2:Int}{r:S8}(hQ:FQ (Xu r) Q)(hS:DO a1 a2=some r): ∀st,au [0] [] [] st=af5 a1 a2→ZX d Q aj9 [.blk 0,.seq Wy] st:=by
 intro st he
 exact ay he (a_ (zL 3 (zE (qX (cj (zS (zL 2 (aq hS (fun z2 hz2 hS=>zO (some 33) (c1 78 32) (iI (args:= [(.r (.aJ 264 1 0 (([(cO .and .i64 a1 31)]:List Int).length)))]) (by kernel_rfl) (jr (tG eI (e:=3) (k:=1) (xs:= [(cO .and .i64 a1 31)]) (by kernel_rfl) rfl rfl) l5) (zR (aU hd rfl) hz2) (by kernel_rfl) (by kernel_rfl)) (nL hS hQ))))))))))
def af6(a1 a2:Int):St:=⟨(up u0 0 (dI a1)),h0⟩
def zU(a1 a2:Int):Option (S8):=(bif (decide (a1=32)) then ((f78 [0]).bind fun z3=>(some z3)) else (bif (decide (a1=63)) then ((f78 [127]).bind fun z4=>(some z4)) else ((f78 [a1]).bind fun z5=>(some z5))))
theorem vM(hd:4≤d){a1 a2:Int}{r:S8}(hQ:FQ (Xu r) Q)(hS:zU a1 a2=some r): ∀st,au [0] [] [] st=af6 a1 a2→ZX d Q aj_ [.blk 0,.seq Wy] st:=by
 intro st he
 refine ay he (zS (zL 1 (sB 27 hS (fun hS=>?_) (fun hS=>?_))))
 ·exact zL 1 (zK (zT (a_ (zL 1 (zE (qX (cj (zS (zL 2 (aq hS (fun z3 hz3 hS=>zO (some 33) (c1 78 32) (iI (args:= [(.r (.aJ 264 1 0 (([0]:List Int).length)))]) (by kernel_rfl) (jr (tG eI (e:=3) (k:=1) (xs:= [0]) (by kernel_rfl) rfl rfl) l5) (zR (aU hd rfl) hz3) (by kernel_rfl) (by kernel_rfl)) (nL hS hQ))))))))))))
 ·refine zL 1 (zK (zF (zS (zL 1 (sB 30 hS (fun hS=>?_) (fun hS=>?_))))))
  ·exact zL 1 (zK (zT (a_ (zL 1 (zE (qX (cj (zS (zL 2 (aq hS (fun z4 jf hS=>zO (some 33) (c1 78 32) (iI (args:= [(.r (.aJ 264 1 0 (([127]:List Int).length)))]) (by kernel_rfl) (jr (tG eI (e:=3) (k:=1) (xs:= [127]) (by kernel_rfl) rfl rfl) l5) (zR (aU hd rfl) jf) (by kernel_rfl) (by kernel_rfl)) (nL hS hQ))))))))))))
  ·exact zL 1 (zK (zF (fP (qX (cj (zS (zL 2 (aq hS (fun z5 jZ hS=>zO (some 33) (c1 78 32) (iI (args:= [(.r (.aJ 264 1 0 (([a1]:List Int).length)))]) (by kernel_rfl) (jr (tG eI (e:=3) (k:=1) (xs:= [a1]) (by kernel_rfl) rfl rfl) l5) (zR (aU hd rfl) jZ) (by kernel_rfl) (by kernel_rfl)) (nL hS hQ))))))))))
def f65(a1 a2:Int):Option (S8):=(bif (!decide ((cO .and .i64 a2 4)=0)) then (bif (decide (64≤a1)) then (bif (decide (a1≤95)) then (DO a1 a2) else (bif (decide (97≤a1)) then (bif (decide (a1≤122)) then (DO a1 a2) else (zU a1 a2)) else (zU a1 a2))) else (bif (decide (97≤a1)) then (bif (decide (a1≤122)) then (DO a1 a2) else (zU a1 a2)) else (zU a1 a2))) else ((f78 [a1]).bind fun z6=>(some z6)))
theorem at9{d:Nat}(hd:4≤d){a1 a2:Int}{r:S8}(hS:f65 a1 a2=some r):bW av aX d 65 [(dI a1),(dI a2)] []=some ((.d (.str r)),[]):=by
 refine cL Xu hd (fun Q hQ=>?_) al2
 refine zS (zL 1 (zK (aC (zS (zL 2 (sB 7 hS (fun hS=>?_) (fun hS=>?_)))))))
 ·refine zK (zT (bz (zS (zL 1 (sB 10 hS (fun hS=>?_) (fun hS=>?_))))))
  ·refine zL 2 (sB 13 hS (fun hS=>?_) (fun hS=>?_))
   ·exact zL 10 (zK (zT (Ca hd hQ hS _ (by kernel_rfl))))
   ·refine zL 3 (sB 17 hS (fun hS=>?_) (fun hS=>?_))
    ·refine zL 2 (sB 20 hS (fun hS=>?_) (fun hS=>?_))
     ·exact zL 3 (zK (zT (Ca hd hQ hS _ (by kernel_rfl))))
     ·exact zL 3 (zK (zF (vM hd hQ hS _ (by kernel_rfl))))
    ·exact zL 6 (zK (zF (vM hd hQ hS _ (by kernel_rfl))))
  ·refine zL 6 (sB 17 hS (fun hS=>?_) (fun hS=>?_))
   ·refine zL 2 (sB 20 hS (fun hS=>?_) (fun hS=>?_))
    ·exact zL 3 (zK (zT (Ca hd hQ hS _ (by kernel_rfl))))
    ·exact zL 3 (zK (zF (vM hd hQ hS _ (by kernel_rfl))))
   ·exact zL 6 (zK (zF (vM hd hQ hS _ (by kernel_rfl))))
 ·exact zK (zF (fP (cj (zS (zL 2 (aq hS (fun z6 nH hS=>zO (some 33) (c1 78 32) (iI (args:= [(.r (.aJ 264 1 0 (([a1]:List Int).length)))]) (by kernel_rfl) (jr (tG eI (e:=3) (k:=1) (xs:= [a1]) (by kernel_rfl) rfl rfl) l5) (zR (aU hd rfl) nH) (by kernel_rfl) (by kernel_rfl)) (nL hS hQ))))))))
/- farwriter/press.plain -/
def Xv(r:S8)(e:PX)(st:St):Prop:=aV c30 0 ((.d (.str r)),[]) e st
def af7(a1:dW):St:=⟨(up u0 1 (pt 16)),(up h0 16 (xA a1))⟩
def Ht(a1:dW):Option (S8):=(bif (decide (a1.Name=25)) then (some [127]) else (bif (decide (a1.Name=26)) then (some [27]) else ((f65 a1.eC a1.eG).bind fun z2=>(some z2))))
theorem JL(hd:5≤d){a1:dW}{r:S8}(hQ:FQ (Xv r) Q)(hS:Ht a1=some r): ∀st,au [1] [(16,.id 16)] [] st=af7 a1→ZX d Q aka [.blk 0,.seq Wz] st:=by
 intro st he
 refine ay he (zS (zL 2 (sB 34 hS (fun hS=>?_) (fun hS=>?_))))
 ·exact nL hS hQ
 ·refine zL 1 (zK (zF (zS (zL 2 (sB 38 hS (fun hS=>?_) (fun hS=>?_))))))
  ·exact nL hS hQ
  ·exact zL 1 (zK (zF (fP (qX (cj (zS (zL 4 (aq hS (fun z2 hz2 hS=>zC 43 (at9 (aU hd rfl) hz2) (nL hS hQ))))))))))
def af8(a1:dW):St:=⟨(up u0 1 (pt 16)),(up h0 16 (xA a1))⟩
def Hu(a1:dW):Option (S8):=(bif (decide (a1.Name=24)) then (some [9]) else (bif (decide (a1.Name=25)) then (bif (!decide ((cO .and .i64 a1.eG 4)=0)) then (some [8]) else (Ht a1)) else (Ht a1)))
theorem JM(hd:5≤d){a1:dW}{r:S8}(hQ:FQ (Xv r) Q)(hS:Hu a1=some r): ∀st,au [1] [(16,.id 16)] [] st=af8 a1→ZX d Q akb [.blk 0,.seq Wz] st:=by
 intro st he
 refine ay he (zS (zL 2 (sB 20 hS (fun hS=>?_) (fun hS=>?_))))
 ·exact nL hS hQ
 ·refine zL 1 (zK (zF (zS (zL 2 (sB 24 hS (fun hS=>?_) (fun hS=>?_))))))
  ·refine zL 4 (sB 29 hS (fun hS=>?_) (fun hS=>?_))
   ·exact nL hS hQ
   ·exact zL 2 (zK (zF (JL hd hQ hS _ (by kernel_rfl))))
  ·exact jL (JL hd hQ hS)
def f30(a1:dW):Option (S8):=(bif (decide (a1.Name=23)) then (some [13]) else (bif (decide (a1.Name=24)) then (bif (!decide ((cO .and .i64 a1.eG 1)=0)) then (some [27,91,90]) else (Hu a1)) else (Hu a1)))
theorem aua{d:Nat}(hd:5≤d){a1:dW}{r:S8}(hS:f30 a1=some r):bW av aX d 30 [(.agg ((dI a1.Name)::((dI a1.eC)::((dI a1.eG):: []))))] []=some ((.d (.str r)),[]):=by
 refine cL Xv hd (fun Q hQ=>?_) alG
 refine zS (zL 2 (zK (aC (bz (zS (zL 2 (sB 6 hS (fun hS=>?_) (fun hS=>?_))))))))
 ·exact nL hS hQ
 ·refine zL 1 (zK (zF (zS (zL 2 (sB 10 hS (fun hS=>?_) (fun hS=>?_))))))
  ·refine zL 4 (sB 15 hS (fun hS=>?_) (fun hS=>?_))
   ·exact nL hS hQ
   ·exact zL 2 (zK (zF (JM hd hQ hS _ (by kernel_rfl))))
  ·exact jL (JM hd hQ hS)
/- farwriter/press.Key -/
def F8(r:S8×Int)(e:PX)(st:St):Prop:=aV c8 0 ((.bE [(.d (.str r.1)),(dI r.2)]),[]) e st
def amR(a1:dW)(a2:Int):St:=⟨(up u0 2 (pt 24)),(up h0 24 (xA a1))⟩
def QC(a1:dW)(a2:Int):Option (S8×Int):=((f30 a1).bind fun z21=>(bif (!decide ((cO .and .i64 a1.eG 2)=0)) then ((ep ([27]:S8) z21).bind fun z22=>(some (z22,0))) else (some (z21,0))))
theorem af9(hd:6≤d){a1:dW}{a2:Int}{r:S8×Int}(hQ:FQ (F8 r) Q)(hS:QC a1 a2=some r): ∀st,au [2] [(24,.id 24)] [] st=amR a1 a2→ZX d Q Je [] st:=by
 intro st he
 refine ay he (zS (zL 1 (aq hS (fun z21 nc hS=>zC 110 (aua (aU hd rfl) nc) (zL 1 (zK (aC (zS (zL 3 (sB 114 hS (fun hS=>?_) (fun hS=>?_)))))))))))
 ·exact zK (zT (a_ (zL 1 (aq hS (fun z22 AK hS=>zO (v:=(.d (.str z22))) (aD:= []) (some 116) (.jD .add (.const (.string ⟨#[27]⟩)) (tm 115)) (gJ (a:= [27]) (c:=z21) (by kernel_rfl) (by kernel_rfl) AK) (nL hS hQ))))))
 ·exact nL hS hQ
def amS(a1:dW)(a2:Int):St:=⟨(up u0 2 (pt 24)),(up h0 24 (xA a1))⟩
def Xw(a1:dW)(a2:Int):Option (S8×Int):=(QC a1 a2)
theorem NP(hd:6≤d){a1:dW}{a2:Int}{r:S8×Int}(hQ:FQ (F8 r) Q)(hS:Xw a1 a2=some r): ∀st,au [2] [(24,.id 24)] [] st=amS a1 a2→ZX d Q awl [.blk 0,.seq Je] st:=by
 intro st he
 exact ay he (jR (af9 hd hQ hS))
def amT(a1:dW)(a2:Int):St:=⟨(up (up u0 6 (dI a1.Name)) 2 (pt 24)),(up h0 24 (xA a1))⟩
def JN(a1:dW)(a2:Int):Option (S8×Int):=(bif (decide (14<a1.Name)) then (bif (decide (a1.Name<23)) then ((jG (IntKind.i64.wrap ((IntKind.i64.wrap (a1.Name-11))-4)) 8).bind fun m23=>((f29 (([15,17,18,19,20,21,23,24]:List Int).getD m23 0) a1.eG).bind fun z24=>(some (z24,0)))) else (Xw a1 a2)) else (Xw a1 a2))
theorem NQ(hd:6≤d){a1:dW}{a2:Int}{r:S8×Int}(hQ:FQ (F8 r) Q)(hS:JN a1 a2=some r): ∀st,au [2,6] [(24,.id 24)] [] st=amT a1 a2→ZX d Q awm [.blk 0,.seq Je] st:=by
 intro st he
 refine ay he (zS (zL 1 (sB 96 hS (fun hS=>?_) (fun hS=>?_))))
 ·refine zL 2 (sB 99 hS (fun hS=>?_) (fun hS=>?_))
  ·exact zL 2 (zK (zT (aC (cC (cy 4 (aq hS (fun m23 amF hS=>dr (v:=(dI (([15,17,18,19,20,21,23,24]:List Int).getD m23 0))) (aD:= []) (some 105) none (.GH .false 8 1 (tm 101) (tm 104)) (zb eI (fun i=>([15,17,18,19,20,21,23,24]:List Int).getD i 0) (kk:= .i64) (j:=(IntKind.i64.wrap ((IntKind.i64.wrap (a1.Name-11))-4))) (by kernel_rfl) (by kernel_rfl) amF rfl (by kernel_rfl) (by kernel_rfl)) (cy 2 (aq hS (fun z24 pX hS=>dr (some 108) none (.call 29 [(tm 105),(tm 107)]) (bX (acn (aU hd rfl) pX)) (cy 2 (fL (nK hS hQ)))))))))))))
  ·exact zL 2 (zK (zF (NP hd hQ hS _ (by kernel_rfl))))
 ·exact jL (NP hd hQ hS)
def amU(a1:dW)(a2:Int):St:=⟨(up (up u0 6 (dI a1.Name)) 2 (pt 24)),(up h0 24 (xA a1))⟩
def JO(a1:dW)(a2:Int):Option (S8×Int):=(bif (decide (11≤a1.Name)) then (bif (decide (a1.Name≤14)) then ((idx ([80,81,82,83]:S8) (IntKind.i64.wrap (a1.Name-11))).bind fun z25=>((f28 [79] z25 a1.eG).bind fun z26=>(some (z26,0)))) else (JN a1 a2)) else (JN a1 a2))
theorem NR(hd:6≤d){a1:dW}{a2:Int}{r:S8×Int}(hQ:FQ (F8 r) Q)(hS:JO a1 a2=some r): ∀st,au [2,6] [(24,.id 24)] [] st=amU a1 a2→ZX d Q awn [.blk 0,.seq Je] st:=by
 intro st he
 refine ay he (zS (zL 1 (sB 83 hS (fun hS=>?_) (fun hS=>?_))))
 ·refine zL 2 (sB 86 hS (fun hS=>?_) (fun hS=>?_))
  ·exact zL 2 (zK (zT (aC (cC (cy 2 (aq hS (fun z25 rQ hS=>dr (v:=(.d (.int .u8 (z25.toNat:Int)))) (aD:= []) (some 90) none (.iw (.const (.string ⟨#[80,81,82,83]⟩)) (tm 89)) (fq (kk:= .i64) (s:= [80,81,82,83]) (j:=(IntKind.i64.wrap (a1.Name-11))) (by kernel_rfl) (by kernel_rfl) rQ) (cy 2 (aq hS (fun z26 rH hS=>dr (some 93) none (.call 28 [(.const (.string ⟨#[79]⟩)),(tm 90),(tm 92)]) (bX (acm (aU hd rfl) rH)) (cy 2 (fL (nK hS hQ)))))))))))))
  ·exact zL 2 (zK (zF (NQ hd hQ hS _ (by kernel_rfl))))
 ·exact jL (NQ hd hQ hS)
def amV(a1:dW)(a2:Int):St:=⟨(up (up u0 6 (dI a1.Name)) 2 (pt 24)),(up h0 24 (xA a1))⟩
def JP(a1:dW)(a2:Int):Option (S8×Int):=(bif (decide (7≤a1.Name)) then (bif (decide (a1.Name≤10)) then ((jG (IntKind.i64.wrap (a1.Name-7)) 4).bind fun m27=>((f29 (([2,3,5,6]:List Int).getD m27 0) a1.eG).bind fun z28=>(some (z28,0)))) else (JO a1 a2)) else (JO a1 a2))
theorem NS(hd:6≤d){a1:dW}{a2:Int}{r:S8×Int}(hQ:FQ (F8 r) Q)(hS:JP a1 a2=some r): ∀st,au [2,6] [(24,.id 24)] [] st=amV a1 a2→ZX d Q awo [.blk 0,.seq Je] st:=by
 intro st he
 refine ay he (zS (zL 1 (sB 69 hS (fun hS=>?_) (fun hS=>?_))))
 ·refine zL 2 (sB 72 hS (fun hS=>?_) (fun hS=>?_))
  ·exact zL 2 (zK (zT (aC (cC (cy 3 (aq hS (fun m27 aCb hS=>dr (v:=(dI (([2,3,5,6]:List Int).getD m27 0))) (aD:= []) (some 77) none (.GH .false 4 1 (tm 74) (tm 76)) (zb eI (fun i=>([2,3,5,6]:List Int).getD i 0) (kk:= .i64) (j:=(IntKind.i64.wrap (a1.Name-7))) (by kernel_rfl) (by kernel_rfl) aCb rfl (by kernel_rfl) (by kernel_rfl)) (cy 2 (aq hS (fun z28 S3 hS=>dr (some 80) none (.call 29 [(tm 77),(tm 79)]) (bX (acn (aU hd rfl) S3)) (cy 2 (fL (nK hS hQ)))))))))))))
  ·exact zL 2 (zK (zF (NR hd hQ hS _ (by kernel_rfl))))
 ·exact jL (NR hd hQ hS)
def amW(a1:dW)(a2:Int)(dZ:S8):St:=⟨(up (up (up u0 7 (.d (.str dZ))) 6 (dI a1.Name)) 2 (pt 24)),(up h0 24 (xA a1))⟩
def vN(a1:dW)(a2:Int)(dZ:S8):Option (S8×Int):=((idx ([65,66,67,68,72,70]:S8) (IntKind.i64.wrap (a1.Name-1))).bind fun ox=>((f28 dZ ox a1.eG).bind fun JG=>(some (JG,0))))
theorem NT(hd:6≤d){a1:dW}{a2:Int}{r:S8×Int}(hQ:FQ (F8 r) Q){dZ:S8}(hS:vN a1 a2 dZ=some r): ∀st,au [2,6,7] [(24,.id 24)] [] st=amW a1 a2 dZ→ZX d Q awk [.blk 0,.seq Je] st:=by
 intro st he
 exact ay he (aC (cC (cy 3 (aq hS (fun ox JE hS=>dr (v:=(.d (.int .u8 (ox.toNat:Int)))) (aD:= []) (some 63) none (.iw (.const (.string ⟨#[65,66,67,68,72,70]⟩)) (tm 62)) (fq (kk:= .i64) (s:= [65,66,67,68,72,70]) (j:=(IntKind.i64.wrap (a1.Name-1))) (by kernel_rfl) (by kernel_rfl) JE) (cy 2 (aq hS (fun JG Tp hS=>dr (some 66) none (.call 28 [(tm 60),(tm 63),(tm 65)]) (bX (acm (aU hd rfl) Tp)) (cy 2 (fL (nK hS hQ)))))))))))
def amX(a1:dW)(a2:Int):St:=⟨(up (up u0 2 (pt 24)) 1 (dI a2)),(up h0 24 (xA a1))⟩
def mg(a1:dW)(a2:Int):Option (S8×Int):=(bif (decide (1≤a1.Name)) then (bif (decide (a1.Name≤6)) then (bif (!decide ((cO .and .i64 a2 16)=0)) then (vN a1 a2 [79]) else (vN a1 a2 [91])) else (JP a1 a2)) else (JP a1 a2))
theorem zV(hd:6≤d){a1:dW}{a2:Int}{r:S8×Int}(hQ:FQ (F8 r) Q)(hS:mg a1 a2=some r): ∀st,au [1,2] [(24,.id 24)] [] st=amX a1 a2→ZX d Q awp [] st:=by
 intro st he
 refine ay he (zS (zL 3 (zK (aC (bz (zS (zL 1 (sB 52 hS (fun hS=>?_) (fun hS=>?_)))))))))
 ·refine zL 2 (sB 55 hS (fun hS=>?_) (fun hS=>?_))
  ·refine zL 2 (zK (zT (zS (zL 1 (zK (aC (zS (zL 2 (sB 59 hS (fun hS=>?_) (fun hS=>?_))))))))))
   ·exact zK (zT (a_ (zL 1 (zK (NT hd hQ hS _ (by kernel_rfl))))))
   ·exact jL (NT hd hQ hS)
  ·exact zL 2 (zK (zF (NS hd hQ hS _ (by kernel_rfl))))
 ·exact jL (NS hd hQ hS)
def f8(a1:dW)(a2:Int):Option (S8×Int):=(bif (decide (a1.eG<0)) then (some ([],1)) else (bif (decide (7<a1.eG)) then (some ([],1)) else (bif (decide (a1.Name<0)) then (some ([],1)) else (bif (decide (26<a1.Name)) then (some ([],1)) else (bif (decide (a1.Name=0)) then ((f27 a1.eC).bind fun z31=>(bif (!z31) then (some ([],1)) else (bif (!decide (a1.Name=0)) then (bif (!decide (a1.eC=0)) then (some ([],1)) else (mg a1 a2)) else (mg a1 a2)))) else (bif (!decide (a1.Name=0)) then (bif (!decide (a1.eC=0)) then (some ([],1)) else (mg a1 a2)) else (mg a1 a2)))))))
theorem amY{d:Nat}(hd:6≤d){a1:dW}{a2:Int}{r:S8×Int}(hS:f8 a1 a2=some r):bW av aX d 8 [(.agg ((dI a1.Name)::((dI a1.eC)::((dI a1.eG):: [])))),(dI a2)] []=some ((.bE [(.d (.str r.1)),(dI r.2)]),[]):=by
 refine cL F8 hd (fun Q hQ=>?_) atI
 refine zS (zL 3 (zK (aC (zS (zL 2 (sB 11 hS (fun hS=>?_) (fun hS=>?_)))))))
 ·exact nL hS hQ
 ·refine zL 3 (sB 15 hS (fun hS=>?_) (fun hS=>?_))
  ·exact nL hS hQ
  ·refine zL 4 (sB 20 hS (fun hS=>?_) (fun hS=>?_))
   ·exact nL hS hQ
   ·refine zL 4 (sB 25 hS (fun hS=>?_) (fun hS=>?_))
    ·exact nL hS hQ
    ·refine zL 4 (sB 30 hS (fun hS=>?_) (fun hS=>?_))
     ·refine zL 3 (aq hS (fun z31 acp hS=>zG (some 34) 31 true (c1 27 33) (bX (at7 (aU hd rfl) acp)) (zL 4 (sL 38 hS (fun hS=>?_) (fun hS=>?_)))))
      ·exact nL hS hQ
      ·refine zL 2 (sB 41 hS (fun hS=>?_) (fun hS=>?_))
       ·refine zL 3 (sB 45 hS (fun hS=>?_) (fun hS=>?_))
        ·exact nL hS hQ
        ·exact jL (zV hd hQ hS)
       ·exact jL (zV hd hQ hS)
     ·refine zL 10 (sB 41 hS (fun hS=>?_) (fun hS=>?_))
      ·refine zL 3 (sB 45 hS (fun hS=>?_) (fun hS=>?_))
       ·exact nL hS hQ
       ·exact jL (zV hd hQ hS)
      ·exact jL (zV hd hQ hS)
/- (*farwriter/client.worker).us -/
def azA(r:Bool)(e:PX)(st:St):Prop:=aV c46 0 ((dB r),[]) e st
def f46(a1:bf)(a2:List PD)(a3:Int):Option (Bool):=((jG a3 256).bind fun m2=>(bif (decide (((a1.Client.Neg.Us m2).toNat:Int)=1)) then (some true) else (some false)))
theorem acq{d:Nat}(hd:1≤d){a1:bf}{a2:List PD}{a3:Int}{r:Bool}(hS:f46 a1 a2 a3=some r):bW av aX d 46 [(.cD (sY.enc a1++a2)),(dI a3)] []=some ((dB r),[]):=by
 refine cL azA hd (fun Q hQ=>?_) alM
 refine zS (zL 1 (zK (zS (zL 6 (aq hS (fun m2 TB hS=>zO (v:=(.cD (List.drop (m2*1) ((sY.enc a1++a2).drop 45)))) (aD:= []) (some 11) (.sN 256 1 (tm 10) (tm 6)) (Zs (kk:= .i64) (j:=a3) (by kernel_rfl) (by kernel_rfl) TB) (zO (v:=(.d (.int .u8 ((a1.Client.Neg.Us m2).toNat:Int)))) (aD:= []) (some 12) (lf 1 11) (M4 cH (f:=a1.Client.Neg.Us) (nn:=256) (m:=m2) (post:=(cH.jQ 256 a1.Client.Neg.mK++((cE .u64).jQ 4 a1.Client.Neg.Az++((cE .u64).jQ 4 a1.Client.Neg.tH++(.sl a1.Client.bL.Names.length (dM.cells a1.Client.bL.Names)::(.int .i64 a1.Client.bL.At::(.sl a1.Client.Vars.length (cW.cells a1.Client.Vars)::(cH.jQ 19 a1.Client.Keys.iZ++(cH.jQ 19 a1.Client.Keys.rq++((cE .u64).jQ 4 a1.Client.Mask.Bits++(.str a1.Client.gS.pM::(.bool a1.Client.gS.Quote::(.bool a1.Client.lF::(.str a1.sent::a2)))))))))))))) (by kernel_rfl) (lO TB) (by kernel_rfl) (by kernel_rfl)) (sB 13 hS (fun hS=>?_) (fun hS=>?_)))))))))
 ·exact nL hS hQ
 ·exact nL hS hQ
/- farwriter/nvt.Out -/
def amZ(r:S8)(e:PX)(st:St):Prop:=aV c11 0 ((.d (.str r)),[]) e st
def af_(a1:S8)(a2:Bool)(x:S8×Int):St:=⟨(up (up (up (up u0 11 (dI x.2)) 10 (dI (a1.length:Int))) 5 (.r (.aJ 48 0 0 x.1.length))) 0 (.d (.str a1))),(up h0 48 ⟨0,some (.own 5 1 (cH.cells x.1))⟩)⟩
def uL(a1:S8)(a2:Bool)(x:S8×Int)(st:St):Prop:=au [0,5,10,11] [(48,.id 48)] [] st=af_ a1 a2 x
def DR(a1:S8)(a2:Bool)(pQ:S8):St:=⟨(up u0 5 (.r (.aJ 48 0 0 pQ.length))),(up h0 48 ⟨0,some (.own 5 1 (cH.cells pQ))⟩)⟩
def zW(a1:S8)(a2:Bool)(z:(S8))(e:PX)(st:St):Prop:=e= .exit 0∧st=DR a1 a2 z
def QD(a1:S8)(a2:Bool)(eF:S8)(ic:Int):St:=⟨(up (up (up (up u0 11 (dI ic)) 10 (dI (a1.length:Int))) 5 (.r (.aJ 48 0 0 eF.length))) 0 (.d (.str a1))),(up h0 48 ⟨0,some (.own 5 1 (cH.cells eF))⟩)⟩
def Cb(a1:S8)(a2:Bool)(eF:S8)(ic:Int):Option ((S8×Int)⊕((S8))):=((idx a1 ic).bind fun dy=>(bif (decide ((dy.toNat:Int)=10)) then ((eN 1 eF ([13,10]:S8)).bind fun fC=>(some (.inl (fC,(IntKind.i64.wrap (ic+1)))))) else (bif (decide ((dy.toNat:Int)=13)) then ((eN 1 eF ([13,0]:S8)).bind fun fD=>(some (.inl (fD,(IntKind.i64.wrap (ic+1)))))) else ((idx a1 ic).bind fun gy=>((eN 1 eF ([gy]:S8)).bind fun z20=>(some (.inl (z20,(IntKind.i64.wrap (ic+1))))))))))
theorem LU(hd:1≤d){a1:S8}{a2:Bool}{r:(S8×Int)⊕((S8))}(hQ:FQ (bG (uL a1 a2) (zW a1 a2) r) Q){eF:S8}{ic:Int}(hS:Cb a1 a2 eF ic=some r): ∀st,au [0,5,10,11] [(48,.id 48)] [] st=QD a1 a2 eF ic→ZX d Q akc [] st:=by
 intro st he
 refine ay he (aC (bz (zS (zL 2 (zK (zS (zL 2 (aq hS (fun dy jm hS=>zO (v:=(.d (.int .u8 (dy.toNat:Int)))) (aD:= []) (some 16) (.iw (tm 14) (tm 15)) (fq (kk:= .i64) (s:=a1) (j:=ic) (by kernel_rfl) (by kernel_rfl) jm) (zK (bz (zS (sB 24 hS (fun hS=>?_) (fun hS=>?_))))))))))))))
 ·exact zL 1 (zK (zT (a_ (zL 2 (aq hS (fun fC ke hS=>zO (v:=(.r (.aJ 48 1 0 fC.length))) (aD:= [(48,⟨1,some (.own 5 1 (cH.cells fC))⟩)]) (some 27) (.app 5 1 1 (tm 25) (tm 26)) (eL cH (b:=48) (g:=0) (n:=eF.length) (xs:=eF) (ys:= [13,10]) ((congrArg (fJ _) (by kernel_rfl:bU _ (.tmp 26)=(.r (.aJ 216 1 0 (([13,10]:S8).length))))).trans (cX cH (e:=5) (k:=1) (xs:= [13,10]) (by kernel_rfl) rfl rfl)) rfl (by kernel_rfl) rfl (by kernel_rfl) rfl ke) (lL hS hQ)))))))
 ·refine zL 1 (zK (zF (zS (sB 29 hS (fun hS=>?_) (fun hS=>?_)))))
  ·exact zL 1 (zK (zT (a_ (zL 2 (aq hS (fun fD lJ hS=>zO (v:=(.r (.aJ 48 1 0 fD.length))) (aD:= [(48,⟨1,some (.own 5 1 (cH.cells fD))⟩)]) (some 32) (.app 5 1 1 (tm 30) (tm 31)) (eL cH (b:=48) (g:=0) (n:=eF.length) (xs:=eF) (ys:= [13,0]) ((congrArg (fJ _) (by kernel_rfl:bU _ (.tmp 31)=(.r (.aJ 256 1 0 (([13,0]:S8).length))))).trans (cX cH (e:=5) (k:=1) (xs:= [13,0]) (by kernel_rfl) rfl rfl)) rfl (by kernel_rfl) rfl (by kernel_rfl) rfl lJ) (lL hS hQ)))))))
  ·exact zL 1 (zK (zF (a_ (zL 3 (aq hS (fun gy nM hS=>zO (v:=(.d (.int .u8 (gy.toNat:Int)))) (aD:= []) (some 20) (.iw (tm 18) (tm 19)) (fq (kk:= .i64) (s:=a1) (j:=ic) (by kernel_rfl) (by kernel_rfl) nM) (zL 1 (aq hS (fun z20 nN hS=>zO (v:=(.r (.aJ 48 1 0 z20.length))) (aD:= [(48,⟨1,some (.own 5 1 (cH.cells z20))⟩)]) (some 22) (.app 5 1 1 (tm 17) (tm 21)) (eL cH (b:=48) (g:=0) (n:=eF.length) (xs:=eF) (ys:= [gy]) ((congrArg (fJ _) (by kernel_rfl:bU _ (.tmp 21)=(.r (.aJ 176 1 0 (([gy]:S8).length))))).trans (cX cH (e:=5) (k:=1) (xs:= [gy]) (by kernel_rfl) rfl rfl)) rfl (by kernel_rfl) rfl (by kernel_rfl) rfl nN) (lL hS hQ))))))))))
def QE(a1:S8)(a2:Bool)(gP:S8)(iC:Int)(iD:Bool):St:=⟨(up (up (up (up (up u0 12 (dB iD)) 11 (dI iC)) 10 (dI (a1.length:Int))) 5 (.r (.aJ 48 0 0 gP.length))) 0 (.d (.str a1))),(up h0 48 ⟨0,some (.own 5 1 (cH.cells gP))⟩)⟩
def rT(a1:S8)(a2:Bool)(gP:S8)(iC:Int)(iD:Bool):Option ((S8×Int)⊕((S8))):=(bif iD then (Cb a1 a2 gP iC) else (some (.inr gP)))
theorem A7(hd:1≤d){a1:S8}{a2:Bool}{r:(S8×Int)⊕((S8))}(hQ:FQ (bG (uL a1 a2) (zW a1 a2) r) Q){gP:S8}{iC:Int}{iD:Bool}(hS:rT a1 a2 gP iC iD=some r): ∀st,au [0,5,10,11,12] [(48,.id 48)] [] st=QE a1 a2 gP iC iD→ZX d Q akd [] st:=by
 intro st he
 refine ay he (aC (sR 12 hS (fun hS=>?_) (fun hS=>?_)))
 ·exact jR (LU hd hQ hS)
 ·exact zF (ay (J:=DR a1 a2 gP) (by kernel_rfl) (dh (cY (bk (jA hS hQ)))))
def Hv(a1:S8)(a2:Bool)(x:S8×Int):Option ((S8×Int)⊕((S8))):=(bif (decide (x.2<(a1.length:Int))) then (rT a1 a2 x.1 x.2 true) else (rT a1 a2 x.1 x.2 false))
theorem Xx(hd:1≤d){a1:S8}{a2:Bool}{r:(S8×Int)⊕((S8))}(hQ:FQ (bG (uL a1 a2) (zW a1 a2) r) Q){x:S8×Int}(hS:Hv a1 a2 x=some r)(he:uL a1 a2 x st):ZX d Q ake [] st:=by
 refine ay he (zS (sB 12 hS (fun hS=>?_) (fun hS=>?_)))
 ·exact zK (A7 hd hQ hS _ (by kernel_rfl))
 ·exact jL (A7 hd hQ hS)
def aga(a1:S8)(a2:Bool):St:=⟨(up u0 0 (.d (.str a1))),h0⟩
def QF(a1:S8)(a2:Bool):Option (S8):=((b9 (Hv a1 a2) ([],0)).bind fun z21=>(some z21))
theorem Xy(hd:1≤d){a1:S8}{a2:Bool}{r:S8}(hQ:FQ (amZ r) Q)(hS:QF a1 a2=some r): ∀st,au [0] [] [] st=aga a1 a2→ZX d Q akf [] st:=by
 intro st he
 refine ay he (zS (zL 1 (zK (aC (zS (zL 3 (zK (bz (aq hS (fun z21 nc hS=>dN (uL a1 a2) (zW a1 a2) (fun x st r Q h0 hS hQ=>Xx hd hQ hS h0) (x:=([],0)) (z:=z21) (by show au _ _ _ _=_;kernel_rfl) nc ?_))))))))))
 intro e bl _ hX
 obtain ⟨rfl,rfl⟩:_∧_:=hX
 exact j9 (cj (zS (zL 1 (zO (v:=(.d (.str z21))) (aD:= []) (some 35) (.sS (tm 34)) (CZ (s:=z21) ((congrArg (fJ _) (by kernel_rfl:bU _ (.tmp 34)=(.r (.aJ 48 0 0 z21.length)))).trans (cX cH (e:=5) (k:=1) (xs:=z21) (by kernel_rfl) rfl rfl)) rfl) (nL hS hQ)))))
def f11(a1:S8)(a2:Bool):Option (S8):=(bif a2 then (some a1) else (QF a1 a2))
theorem QG{d:Nat}(hd:1≤d){a1:S8}{a2:Bool}{r:S8}(hS:f11 a1 a2=some r):bW av aX d 11 [(.d (.str a1)),(dB a2)] []=some ((.d (.str r)),[]):=by
 refine cL amZ hd (fun Q hQ=>?_) alq
 refine zS (zL 1 (zK (aC (zS (zL 1 (zK (sR 7 hS (fun hS=>?_) (fun hS=>?_))))))))
 ·exact nR hS hQ
 ·exact jR (Xy hd hQ hS)
/- strings.ReplaceAll -/
theorem s7{d:Nat}(hd:0≤d){a1 a2:S8}{a3 r:S8}(hS:eO a1 a2 a3=some r):bW av aX d 32 [(.d (.str a1)),(.d (.str a2)),(.d (.str a3))] []=some ((.d (.str r)),[]):=oa (l:=libs) rfl rfl rfl (aqs hS) d
/- farwriter/iac.Escape -/
def azB(r:S8)(e:PX)(st:St):Prop:=aV c10 0 ((.d (.str r)),[]) e st
def f10(a1:S8):Option (S8):=((eO a1 [255] [255,255]).bind fun z2=>(some z2))
theorem QH{d:Nat}(hd:1≤d){a1 r:S8}(hS:f10 a1=some r):bW av aX d 10 [(.d (.str a1))] []=some ((.d (.str r)),[]):=by
 refine cL azB hd (fun Q hQ=>?_) alp
 exact zS (zL 1 (zK (zS (zL 1 (aq hS (fun z2 hz2 hS=>zC 4 (s7 (aU hd rfl) hz2) (nL hS hQ)))))))
/- (*farwriter/client.worker).text -/
def azC(r:bf)(e:PX)(st:St):Prop:=aV c44 1 ((.bE []),[(vn r)]) e st
def f44(a1:S8)(a2:bf):Option (bf):=((f46 a2 [] 0).bind fun z5=>((f11 a1 z5).bind fun z6=>((f10 z6).bind fun z7=>((ep a2.sent z7).bind fun z8=>(some (bf.mk a2.Client z8))))))
theorem QI{d:Nat}(hd:2≤d){a1:S8}{a2 r:bf}(hS:f44 a1 a2=some r):bW av aX d 44 [(pt 0),(.d (.str a1))] [(vn a2)]=some ((.bE []),[(vn r)]):=by
 refine cL azC hd (fun Q hQ=>?_) alL
 exact cC (cy 6 (aq hS (fun z5 jZ hS=>dr (some 10) none (.call 46 [(tm 9),(ki 0)]) (bX (acq (aU hd rfl) jZ)) (aq hS (fun z6 nH hS=>dr (some 11) none (.call 11 [(tm 8),(tm 10)]) (bX (QG (aU hd rfl) nH)) (aq hS (fun z7 l8 hS=>dr (some 12) none (c1 10 11) (bX (QH (aU hd rfl) l8)) (aq hS (fun z8 je hS=>dr (v:=(.d (.str z8))) (aD:= []) (some 13) none (.jD .add (tm 7) (tm 12)) (gJ (a:=a2.sent) (c:=z7) (by kernel_rfl) (by kernel_rfl) je) (cy 3 (fL (nK hS hQ))))))))))))
/- (*farwriter/client.worker).him -/
def azD(r:Bool)(e:PX)(st:St):Prop:=aV c76 0 ((dB r),[]) e st
def f76(a1:bf)(a2:List PD)(a3:Int):Option (Bool):=((jG a3 256).bind fun m2=>(bif (decide (((a1.Client.Neg.mK m2).toNat:Int)=1)) then (some true) else (some false)))
theorem aub{d:Nat}(hd:1≤d){a1:bf}{a2:List PD}{a3:Int}{r:Bool}(hS:f76 a1 a2 a3=some r):bW av aX d 76 [(.cD (sY.enc a1++a2)),(dI a3)] []=some ((dB r),[]):=by
 refine cL azD hd (fun Q hQ=>?_) al6
 refine zS (zL 1 (zK (zS (zL 6 (aq hS (fun m2 TB hS=>zO (v:=(.cD (List.drop (m2*1) ((sY.enc a1++a2).drop 301)))) (aD:= []) (some 11) (.sN 256 1 (tm 10) (tm 6)) (Zs (kk:= .i64) (j:=a3) (by kernel_rfl) (by kernel_rfl) TB) (zO (v:=(.d (.int .u8 ((a1.Client.Neg.mK m2).toNat:Int)))) (aD:= []) (some 12) (lf 1 11) (M4 cH (f:=a1.Client.Neg.mK) (nn:=256) (m:=m2) (post:=((cE .u64).jQ 4 a1.Client.Neg.Az++((cE .u64).jQ 4 a1.Client.Neg.tH++(.sl a1.Client.bL.Names.length (dM.cells a1.Client.bL.Names)::(.int .i64 a1.Client.bL.At::(.sl a1.Client.Vars.length (cW.cells a1.Client.Vars)::(cH.jQ 19 a1.Client.Keys.iZ++(cH.jQ 19 a1.Client.Keys.rq++((cE .u64).jQ 4 a1.Client.Mask.Bits++(.str a1.Client.gS.pM::(.bool a1.Client.gS.Quote::(.bool a1.Client.lF::(.str a1.sent::a2))))))))))))) (by kernel_rfl) (lO TB) (by kernel_rfl) (by kernel_rfl)) (sB 13 hS (fun hS=>?_) (fun hS=>?_)))))))))
 ·exact nL hS hQ
 ·exact nL hS hQ
/- unicode/utf8.DecodeRuneInString -/
theorem DT{d:Nat}(hd:0≤d){a1:S8}{r:(Int×Int)}(hS:iK a1=some r):bW av aX d 99 [(.d (.str a1))] []=some ((.bE [.d (.int .i32 r.1),.d (.int .i64 r.2)]),[]):=oa (l:=libs) rfl rfl rfl (aBP hS) d
end
end Go.Proofs.YtimbfadnabfabaaGreatDoor.Pm
