/- Typed functions, and that the codes are these. Printed by dec.py. -/
import Derived.Test.YtimbfadnabfabaaGreatDoorDMoF
namespace Go.Proofs.YtimbfadnabfabaaGreatDoor.Pm
noncomputable section
set_option maxRecDepth 1000000
set_option maxHeartbeats 20000000
set_option linter.unusedVariables false
set_option linter.unusedSimpArgs false
variable {d : Nat} {Q : PQ} {st : St}
/- farwriter/client.clone -/
def T_(p1:bh):St:=⟨(up u0 2 (pt 24)),(up h0 24 (aki p1))⟩
theorem apA{p1:bh}:cN (T_ p1) 0 c14.res=some ((lQ p1),[]):=by
 kernel_rfl
def aAH(r:bh)(e:PX)(st:St):Prop:=aU c14 0 ((lQ r),[]) e st
def f14(a1:bh):Option (bh):=((f38 a1.af).bind fun z4=>((f39 a1.bN.Names).bind fun z5=>((f40 a1.Vars).bind fun z6=>(some ({a1 with af:=z4,bN:=(cA.mk z5 a1.bN.At),Vars:=z6})))))
theorem Q7{d:Nat}(hd:4≤d){a1 r:bh}(hS:f14 a1=some r):bZ ay aX d 14 [(lQ a1)] []=some ((lQ r),[]):=by
 refine cI hd (fun Q hQ=>?_) an_
 unfold f14 at hS
 show ZR _ Q amg [] _
 replace hQ:FQ (aAH r) Q:=hQ
 exact zS (zL 2 (zK (zS (zL 2 (aq hS (fun z4 iZ hS=>zO (v:=(.agg (bX z4 48 1 49 1 50 1))) (aD:= [(48,⟨1,some (aH z4)⟩),(49,⟨1,some (aJ z4)⟩),(50,⟨1,some (aN z4)⟩)]) (some 5) (.jn 38 [(tm 4)]) (ja (args:= [(.agg (bK a1.af))]) (args':= [(.agg (bK a1.af))]) (l:= [(.agg (bK a1.af))]) (refs:= []) (r:=(.agg (eX z4))) (v:=(.agg (bX z4 48 1 49 1 50 1))) (od:= [(48,⟨1,some (aH z4)⟩),(49,⟨1,some (aJ z4)⟩),(50,⟨1,some (aN z4)⟩)]) (by kernel_rfl) (by kernel_rfl) (by kernel_rfl) (gR rfl mj) (by kernel_rfl) (IG (aV hd rfl) iZ) (by kernel_rfl) (by kernel_rfl) (by kernel_rfl) (by kernel_rfl)) (zL 2 (zK (aC (cG (cy 3 (aq hS (fun z5 jQ hS=>di (some 10) none (c1 39 9) (b_ (av0 (aV hd rfl) jQ)) (cy 2 (aq hS (fun z6 l9 hS=>di (some 13) none (c1 40 12) (b_ (av1 (aV hd rfl) l9)) (cy 5 (fG (cq (zS (zL 2 (zK (cL (bg (dW hS hQ (je (by kernel_rfl) ((congrArg (fun s=>cN s 0 c14.res) (by exact (by kernel_rfl:_=(⟨(up u0 2 (pt 24)),(up h0 24 ⟨0,some (.box (tO (bh.mk ({a1 with af:=z4,bN:=(cA.mk z5 a1.bN.At),Vars:=z6}.gF) ({a1 with af:=z4,bN:=(cA.mk z5 a1.bN.At),Vars:=z6}.Cr) ({a1 with af:=z4,bN:=(cA.mk z5 a1.bN.At),Vars:=z6}.Part) ({a1 with af:=z4,bN:=(cA.mk z5 a1.bN.At),Vars:=z6}.dG) (aA.mk (bS.mk ({a1 with af:=z4,bN:=(cA.mk z5 a1.bN.At),Vars:=z6}.af.aG.bR) ({a1 with af:=z4,bN:=(cA.mk z5 a1.bN.At),Vars:=z6}.af.aG.bW) z4.aG.Cells) ({a1 with af:=z4,bN:=(cA.mk z5 a1.bN.At),Vars:=z6}.af.Row) ({a1 with af:=z4,bN:=(cA.mk z5 a1.bN.At),Vars:=z6}.af.cP) ({a1 with af:=z4,bN:=(cA.mk z5 a1.bN.At),Vars:=z6}.af.eK) ({a1 with af:=z4,bN:=(cA.mk z5 a1.bN.At),Vars:=z6}.af.ji) ({a1 with af:=z4,bN:=(cA.mk z5 a1.bN.At),Vars:=z6}.af.cT) ({a1 with af:=z4,bN:=(cA.mk z5 a1.bN.At),Vars:=z6}.af.bP) ({a1 with af:=z4,bN:=(cA.mk z5 a1.bN.At),Vars:=z6}.af.eE) ({a1 with af:=z4,bN:=(cA.mk z5 a1.bN.At),Vars:=z6}.af.eU) ({a1 with af:=z4,bN:=(cA.mk z5 a1.bN.At),Vars:=z6}.af.bp) ({a1 with af:=z4,bN:=(cA.mk z5 a1.bN.At),Vars:=z6}.af.cC) ({a1 with af:=z4,bN:=(cA.mk z5 a1.bN.At),Vars:=z6}.af.aI) (bS.mk ({a1 with af:=z4,bN:=(cA.mk z5 a1.bN.At),Vars:=z6}.af.aT.bR) ({a1 with af:=z4,bN:=(cA.mk z5 a1.bN.At),Vars:=z6}.af.aT.bW) z4.aT.Cells) ({a1 with af:=z4,bN:=(cA.mk z5 a1.bN.At),Vars:=z6}.af.gz) z4.bn) ({a1 with af:=z4,bN:=(cA.mk z5 a1.bN.At),Vars:=z6}.Neg) (cA.mk z5 ({a1 with af:=z4,bN:=(cA.mk z5 a1.bN.At),Vars:=z6}.bN.At)) z6 ({a1 with af:=z4,bN:=(cA.mk z5 a1.bN.At),Vars:=z6}.Keys) ({a1 with af:=z4,bN:=(cA.mk z5 a1.bN.At),Vars:=z6}.Mask) ({a1 with af:=z4,bN:=(cA.mk z5 a1.bN.At),Vars:=z6}.gB) ({a1 with af:=z4,bN:=(cA.mk z5 a1.bN.At),Vars:=z6}.kL)) (.d (.sl z4.aG.Cells.length (((aj.cells z4.aG.Cells).drop (0*aj.k)).take (z4.aG.Cells.length*aj.k)))) (.d (.sl z4.aT.Cells.length (((aj.cells z4.aT.Cells).drop (0*aj.k)).take (z4.aT.Cells.length*aj.k)))) (.d (.sl z4.bn.length (((bE.cells z4.bn).drop (0*bE.k)).take (z4.bn.length*bE.k)))) (.d (.sl z5.length (((dN.cells z5).drop (0*dN.k)).take (z5.length*dN.k)))) (.d (.sl z6.length (((cY.cells z6).drop (0*cY.k)).take (z6.length*cY.k))))))⟩)⟩:St)).trans (by simp only [cS.P3];kernel_rfl):dV c14.fin _=T_ ({a1 with af:=z4,bN:=(cA.mk z5 a1.bN.At),Vars:=z6}))).trans apA)))))))))))))))))))))))))))
/- farwriter/press.code -/
def aAI(r:Bool)(e:PX)(st:St):Prop:=aU c27 0 ((dB r),[]) e st
def f27(a1:Int):Option (Bool):=(bif (decide (0≤a1)) then (bif (decide (a1≤1114111)) then (bif (decide (a1<55296)) then (some true) else (bif (decide (57343<a1)) then (some true) else (some false))) else (some false)) else (some false))
theorem av2{d:Nat}(hd:1≤d){a1:Int}{r:Bool}(hS:f27 a1=some r):bZ ay aX d 27 [(dI a1)] []=some ((dB r),[]):=by
 refine cI hd (fun Q hQ=>?_) aok
 unfold f27 at hS
 show ZR _ Q amh [] _
 replace hQ:FQ (aAI r) Q:=hQ
 refine zS (zL 1 (zK (zS (zL 1 (sB 4 hS (fun hS=>?_) (fun hS=>?_))))))
 ·refine zL 2 (sB 7 hS (fun hS=>?_) (fun hS=>?_))
  ·refine zL 3 (sB 11 hS (fun hS=>?_) (fun hS=>?_))
   ·exact nL hS hQ
   ·refine zL 2 (sB 14 hS (fun hS=>?_) (fun hS=>?_))
    ·exact nL hS hQ
    ·exact nL hS hQ
  ·exact nL hS hQ
 ·exact nL hS hQ
/- strconv.Itoa -/
theorem lp{d:Nat}(hd:0≤d){a1:Int}{r:S8}(hS:dD a1=some r):bZ ay aX d 31 [(dI a1)] []=some ((.d (.str r)),[]):=oF (l:=libs) rfl rfl rfl (aC6 hS) d
/- farwriter/press.letter -/
def apB(r:S8)(e:PX)(st:St):Prop:=aU c28 0 ((.d (.str r)),[]) e st
def ahE(a1:S8)(a2:UInt8)(a3:Int):St:=⟨(up (up u0 2 (dI a3)) 1 (.d (.int .u8 (a2.toNat:Int)))),h0⟩
def Q8(a1:S8)(a2:UInt8)(a3:Int):Option (S8):=((dD (IntKind.i64.wrap (a3+1))).bind fun z8=>((ep ([27,91,49,59]:S8) z8).bind fun z9=>((ep z9 ((Utf8.encode (a2.toNat:Int)).data.toList)).bind fun dh=>(some dh))))
theorem X0(hd:1≤d){a1:S8}{a2:UInt8}{a3:Int}{r:S8}(hQ:FQ (apB r) Q)(hS:Q8 a1 a2 a3=some r): ∀st,au [1,2] [] [] st=ahE a1 a2 a3→ZX d Q ami [] st:=by
 intro st he
 refine av he ?_
 unfold Q8 at hS
 exact zS (zL 2 (aq hS (fun z8 iW hS=>zC 17 (lp (aV hd rfl) iW) (aq hS (fun z9 jF hS=>zO (v:=(.d (.str z9))) (aD:= []) (some 18) (.jJ .add (.const (.string ⟨#[27,91,49,59]⟩)) (tm 17)) (gP (a:= [27,91,49,59]) (c:=z8) (by kernel_rfl) (by kernel_rfl) jF) (zL 1 (zO (v:=(.d (.int .i32 (a2.toNat:Int)))) (aD:= []) (some 20) (.kF .i32 (tm 19)) (gJ (kk:= .u8) (a:=(a2.toNat:Int)) (by kernel_rfl) (aac _)) (zL 1 (aq hS (fun dh iT hS=>zO (v:=(.d (.str dh))) (aD:= []) (some 22) (.jJ .add (tm 18) (tm 21)) (gP (a:=z9) (c:=(Utf8.encode (a2.toNat:Int)).data.toList) (by kernel_rfl) (by kernel_rfl) iT) (nL hS hQ)))))))))))
def f28(a1:S8)(a2:UInt8)(a3:Int):Option (S8):=(bif (decide (a3=0)) then ((ep ([27]:S8) a1).bind fun cM=>((ep cM ((Utf8.encode (a2.toNat:Int)).data.toList)).bind fun z12=>(some z12))) else (Q8 a1 a2 a3))
theorem ad6{d:Nat}(hd:1≤d){a1:S8}{a2:UInt8}{a3:Int}{r:S8}(hS:f28 a1 a2 a3=some r):bZ ay aX d 28 [(.d (.str a1)),(.d (.int .u8 (a2.toNat:Int))),(dI a3)] []=some ((.d (.str r)),[]):=by
 refine cI hd (fun Q hQ=>?_) aol
 unfold f28 at hS
 show ZR _ Q amj [] _
 replace hQ:FQ (apB r) Q:=hQ
 refine zS (zL 1 (zK (aC (zS (zL 1 (sB 8 hS (fun hS=>?_) (fun hS=>?_)))))))
 ·exact zK (zT (zS (zL 1 (aq hS (fun cM jN hS=>zO (v:=(.d (.str cM))) (aD:= []) (some 10) (.jJ .add (.const (.string ⟨#[27]⟩)) (tm 9)) (gP (a:= [27]) (c:=a1) (by kernel_rfl) (by kernel_rfl) jN) (zL 1 (zO (v:=(.d (.int .i32 (a2.toNat:Int)))) (aD:= []) (some 12) (.kF .i32 (tm 11)) (gJ (kk:= .u8) (a:=(a2.toNat:Int)) (by kernel_rfl) (aac _)) (zL 1 (aq hS (fun z12 gG hS=>zO (v:=(.d (.str z12))) (aD:= []) (some 14) (.jJ .add (tm 10) (tm 13)) (gP (a:=cM) (c:=(Utf8.encode (a2.toNat:Int)).data.toList) (by kernel_rfl) (by kernel_rfl) gG) (nL hS hQ)))))))))))
 ·exact jL (X0 hd hQ hS)
/- farwriter/press.numbered -/
def aAJ(r:S8)(e:PX)(st:St):Prop:=aU c29 0 ((.d (.str r)),[]) e st
def f29(a1 a2:Int):Option (S8):=((dD a1).bind fun z9=>((ep ([27,91]:S8) z9).bind fun dh=>(bif (!decide (a2=0)) then ((dD (IntKind.i64.wrap (a2+1))).bind fun cM=>((ep ([59]:S8) cM).bind fun z12=>((ep dh z12).bind fun dX=>((ep dX ([126]:S8)).bind fun dR=>(some dR))))) else ((ep dh ([126]:S8)).bind fun eZ=>(some eZ)))))
theorem ad7{d:Nat}(hd:1≤d){a1 a2:Int}{r:S8}(hS:f29 a1 a2=some r):bZ ay aX d 29 [(dI a1),(dI a2)] []=some ((.d (.str r)),[]):=by
 refine cI hd (fun Q hQ=>?_) aom
 unfold f29 at hS
 show ZR _ Q amk [] _
 replace hQ:FQ (aAJ r) Q:=hQ
 refine zS (zL 1 (zK (zS (zL 1 (aq hS (fun z9 jF hS=>zC 7 (lp (aV hd rfl) jF) (aq hS (fun dh iT hS=>zO (v:=(.d (.str dh))) (aD:= []) (some 8) (.jJ .add (.const (.string ⟨#[27,91]⟩)) (tm 7)) (gP (a:= [27,91]) (c:=z9) (by kernel_rfl) (by kernel_rfl) iT) (zL 1 (zK (aC (zS (zL 1 (sB 10 hS (fun hS=>?_) (fun hS=>?_)))))))))))))))
 ·exact zK (zT (a_ (zL 3 (aq hS (fun cM jN hS=>zC 14 (lp (aV hd rfl) jN) (aq hS (fun z12 gG hS=>zO (v:=(.d (.str z12))) (aD:= []) (some 15) (.jJ .add (.const (.string ⟨#[59]⟩)) (tm 14)) (gP (a:= [59]) (c:=cM) (by kernel_rfl) (by kernel_rfl) gG) (aq hS (fun dX iU hS=>zO (v:=(.d (.str dX))) (aD:= []) (some 16) (.jJ .add (tm 11) (tm 15)) (gP (a:=dh) (c:=z12) (by kernel_rfl) (by kernel_rfl) iU) (zL 1 (zK (zS (zL 1 (aq hS (fun dR kz hS=>zO (v:=(.d (.str dR))) (aD:= []) (some 18) (.jJ .add (tm 17) (.const (.string ⟨#[126]⟩))) (gP (a:=dX) (c:= [126]) (by kernel_rfl) (by kernel_rfl) kz) (nL hS hQ))))))))))))))))
 ·exact zK (zF (fV (cq (zS (zL 1 (aq hS (fun eZ lG hS=>zO (v:=(.d (.str eZ))) (aD:= []) (some 18) (.jJ .add (tm 17) (.const (.string ⟨#[126]⟩))) (gP (a:=dh) (c:= [126]) (by kernel_rfl) (by kernel_rfl) lG) (nL hS hQ))))))))
/- unicode/utf8.appendRuneNonASCII -/
def ad8(r:S8)(e:PX)(st:St):Prop:=aU aaw 1 ((.r (.aL 0 0 0 r.length)),[(.own 5 1 (cH.cells r))]) e st
def X3(a1:Int)(a2:S8)(nM:Bool):St:=⟨(up (up (up (up (up u0 1000000 .un) 25 (dB nM)) 5 (.d (.int .u32 (IntKind.u32.wrap (a1))))) 1 (.d (.int .i32 a1))) 0 (.r (.aL 0 1 0 a2.length))),(up h0 0 ⟨1,some (.own 5 1 (cH.cells a2))⟩)⟩
def qd(a1:Int)(a2:S8)(nM:Bool):Option (S8):=(bif nM then ((eP 1 a2 ([((224:UInt8) ||| (u8 (Int.fdiv a1 (2^12)))),((128:UInt8) ||| ((u8 (Int.fdiv a1 (2^6)))&&&(63:UInt8))),((128:UInt8) ||| ((u8 a1)&&&(63:UInt8)))]:S8)).bind fun z6=>(some z6)) else (bif (decide (65535<(IntKind.u32.wrap (a1)))) then (bif (decide ((IntKind.u32.wrap (a1))≤1114111)) then ((eP 1 a2 ([((240:UInt8) ||| (u8 (Int.fdiv a1 (2^18)))),((128:UInt8) ||| ((u8 (Int.fdiv a1 (2^12)))&&&(63:UInt8))),((128:UInt8) ||| ((u8 (Int.fdiv a1 (2^6)))&&&(63:UInt8))),((128:UInt8) ||| ((u8 a1)&&&(63:UInt8)))]:S8)).bind fun z7=>(some z7)) else ((eP 1 a2 ([239,191,189]:S8)).bind fun z8=>(some z8))) else ((eP 1 a2 ([239,191,189]:S8)).bind fun z9=>(some z9))))
theorem tT(hd:1≤d){a1:Int}{a2 r:S8}(hQ:FQ (ad8 r) Q){nM:Bool}(hS:qd a1 a2 nM=some r): ∀st,au [0,1,5,25,1000000] [(0,.id 0)] [] st=X3 a1 a2 nM→ZX d Q aau [.blk 0] st:=by
 intro st he
 refine av he ?_
 unfold qd at hS
 refine sR 25 hS (fun hS=>?_) (fun hS=>?_)
 ·exact zT (zS (zL 3 (zO (v:=(.d (.int .u8 ((u8 (Int.fdiv a1 (2^12))).toNat:Int)))) (aD:= []) (some 37) (.kF .u8 (tm 36)) (gJ (kk:= .i32) (a:=(Int.fdiv a1 (2^12))) (by kernel_rfl) (iu _)) (zO (v:=(.d (.int .u8 (((224:UInt8) ||| (u8 (Int.fdiv a1 (2^12)))).toNat:Int)))) (aD:= []) (some 38) (.rL .or (.const (.int .u8 224)) (tm 37)) (jf (kk:= .u8) (a:=((224:UInt8).toNat:Int)) (c:=((u8 (Int.fdiv a1 (2^12))).toNat:Int)) (by kernel_rfl) (by kernel_rfl) (qV (224:UInt8) (u8 (Int.fdiv a1 (2^12))))) (zL 2 (zO (v:=(.d (.int .u8 ((u8 (Int.fdiv a1 (2^6))).toNat:Int)))) (aD:= []) (some 41) (.kF .u8 (tm 40)) (gJ (kk:= .i32) (a:=(Int.fdiv a1 (2^6))) (by kernel_rfl) (iu _)) (zO (v:=(.d (.int .u8 (((u8 (Int.fdiv a1 (2^6)))&&&(63:UInt8)).toNat:Int)))) (aD:= []) (some 42) (.rL .and (tm 41) (.const (.int .u8 63))) (jf (kk:= .u8) (a:=((u8 (Int.fdiv a1 (2^6))).toNat:Int)) (c:=((63:UInt8).toNat:Int)) (by kernel_rfl) (by kernel_rfl) (uS (u8 (Int.fdiv a1 (2^6))) (63:UInt8))) (zO (v:=(.d (.int .u8 (((128:UInt8) ||| ((u8 (Int.fdiv a1 (2^6)))&&&(63:UInt8))).toNat:Int)))) (aD:= []) (some 43) (.rL .or (.const (.int .u8 128)) (tm 42)) (jf (kk:= .u8) (a:=((128:UInt8).toNat:Int)) (c:=(((u8 (Int.fdiv a1 (2^6)))&&&(63:UInt8)).toNat:Int)) (by kernel_rfl) (by kernel_rfl) (qV (128:UInt8) ((u8 (Int.fdiv a1 (2^6)))&&&(63:UInt8)))) (zL 1 (zO (v:=(.d (.int .u8 ((u8 a1).toNat:Int)))) (aD:= []) (some 45) (.kF .u8 (tm 44)) (gJ (kk:= .i32) (a:=a1) (by kernel_rfl) (iu _)) (zO (v:=(.d (.int .u8 (((u8 a1)&&&(63:UInt8)).toNat:Int)))) (aD:= []) (some 46) (.rL .and (tm 45) (.const (.int .u8 63))) (jf (kk:= .u8) (a:=((u8 a1).toNat:Int)) (c:=((63:UInt8).toNat:Int)) (by kernel_rfl) (by kernel_rfl) (uS (u8 a1) (63:UInt8))) (zO (v:=(.d (.int .u8 (((128:UInt8) ||| ((u8 a1)&&&(63:UInt8))).toNat:Int)))) (aD:= []) (some 47) (.rL .or (.const (.int .u8 128)) (tm 46)) (jf (kk:= .u8) (a:=((128:UInt8).toNat:Int)) (c:=(((u8 a1)&&&(63:UInt8)).toNat:Int)) (by kernel_rfl) (by kernel_rfl) (qV (128:UInt8) ((u8 a1)&&&(63:UInt8)))) (zL 1 (aq hS (fun z6 l9 hS=>zO (v:=(.r (.aL 0 2 0 z6.length))) (aD:= [(0,⟨2,some (.own 5 1 (cH.cells z6))⟩)]) (some 49) (.app 5 1 1 (tm 34) (tm 48)) (eM cH (b:=0) (g:=1) (n:=a2.length) (xs:=a2) (ys:= [((224:UInt8) ||| (u8 (Int.fdiv a1 (2^12)))),((128:UInt8) ||| ((u8 (Int.fdiv a1 (2^6)))&&&(63:UInt8))),((128:UInt8) ||| ((u8 a1)&&&(63:UInt8)))]) ((congrArg (fP _) (by kernel_rfl:b8 _ (.tmp 48)=(.r (.aL 392 1 0 (([((224:UInt8) ||| (u8 (Int.fdiv a1 (2^12)))),((128:UInt8) ||| ((u8 (Int.fdiv a1 (2^6)))&&&(63:UInt8))),((128:UInt8) ||| ((u8 a1)&&&(63:UInt8)))]:S8).length))))).trans (cZ cH (e:=5) (k:=1) (xs:= [((224:UInt8) ||| (u8 (Int.fdiv a1 (2^12)))),((128:UInt8) ||| ((u8 (Int.fdiv a1 (2^6)))&&&(63:UInt8))),((128:UInt8) ||| ((u8 a1)&&&(63:UInt8)))]) (by kernel_rfl) rfl rfl)) rfl (by kernel_rfl) rfl (by kernel_rfl) rfl l9) (nL hS hQ))))))))))))))))
 ·refine zF (zS (zL 1 (sB 52 hS (fun hS=>?_) (fun hS=>?_))))
  ·refine zL 2 (sB 55 hS (fun hS=>?_) (fun hS=>?_))
   ·exact zL 2 (zK (zT (zS (zL 3 (zO (v:=(.d (.int .u8 ((u8 (Int.fdiv a1 (2^18))).toNat:Int)))) (aD:= []) (some 60) (.kF .u8 (tm 59)) (gJ (kk:= .i32) (a:=(Int.fdiv a1 (2^18))) (by kernel_rfl) (iu _)) (zO (v:=(.d (.int .u8 (((240:UInt8) ||| (u8 (Int.fdiv a1 (2^18)))).toNat:Int)))) (aD:= []) (some 61) (.rL .or (.const (.int .u8 240)) (tm 60)) (jf (kk:= .u8) (a:=((240:UInt8).toNat:Int)) (c:=((u8 (Int.fdiv a1 (2^18))).toNat:Int)) (by kernel_rfl) (by kernel_rfl) (qV (240:UInt8) (u8 (Int.fdiv a1 (2^18))))) (zL 2 (zO (v:=(.d (.int .u8 ((u8 (Int.fdiv a1 (2^12))).toNat:Int)))) (aD:= []) (some 64) (.kF .u8 (tm 63)) (gJ (kk:= .i32) (a:=(Int.fdiv a1 (2^12))) (by kernel_rfl) (iu _)) (zO (v:=(.d (.int .u8 (((u8 (Int.fdiv a1 (2^12)))&&&(63:UInt8)).toNat:Int)))) (aD:= []) (some 65) (.rL .and (tm 64) (.const (.int .u8 63))) (jf (kk:= .u8) (a:=((u8 (Int.fdiv a1 (2^12))).toNat:Int)) (c:=((63:UInt8).toNat:Int)) (by kernel_rfl) (by kernel_rfl) (uS (u8 (Int.fdiv a1 (2^12))) (63:UInt8))) (zO (v:=(.d (.int .u8 (((128:UInt8) ||| ((u8 (Int.fdiv a1 (2^12)))&&&(63:UInt8))).toNat:Int)))) (aD:= []) (some 66) (.rL .or (.const (.int .u8 128)) (tm 65)) (jf (kk:= .u8) (a:=((128:UInt8).toNat:Int)) (c:=(((u8 (Int.fdiv a1 (2^12)))&&&(63:UInt8)).toNat:Int)) (by kernel_rfl) (by kernel_rfl) (qV (128:UInt8) ((u8 (Int.fdiv a1 (2^12)))&&&(63:UInt8)))) (zL 2 (zO (v:=(.d (.int .u8 ((u8 (Int.fdiv a1 (2^6))).toNat:Int)))) (aD:= []) (some 69) (.kF .u8 (tm 68)) (gJ (kk:= .i32) (a:=(Int.fdiv a1 (2^6))) (by kernel_rfl) (iu _)) (zO (v:=(.d (.int .u8 (((u8 (Int.fdiv a1 (2^6)))&&&(63:UInt8)).toNat:Int)))) (aD:= []) (some 70) (.rL .and (tm 69) (.const (.int .u8 63))) (jf (kk:= .u8) (a:=((u8 (Int.fdiv a1 (2^6))).toNat:Int)) (c:=((63:UInt8).toNat:Int)) (by kernel_rfl) (by kernel_rfl) (uS (u8 (Int.fdiv a1 (2^6))) (63:UInt8))) (zO (v:=(.d (.int .u8 (((128:UInt8) ||| ((u8 (Int.fdiv a1 (2^6)))&&&(63:UInt8))).toNat:Int)))) (aD:= []) (some 71) (.rL .or (.const (.int .u8 128)) (tm 70)) (jf (kk:= .u8) (a:=((128:UInt8).toNat:Int)) (c:=(((u8 (Int.fdiv a1 (2^6)))&&&(63:UInt8)).toNat:Int)) (by kernel_rfl) (by kernel_rfl) (qV (128:UInt8) ((u8 (Int.fdiv a1 (2^6)))&&&(63:UInt8)))) (zL 1 (zO (v:=(.d (.int .u8 ((u8 a1).toNat:Int)))) (aD:= []) (some 73) (.kF .u8 (tm 72)) (gJ (kk:= .i32) (a:=a1) (by kernel_rfl) (iu _)) (zO (v:=(.d (.int .u8 (((u8 a1)&&&(63:UInt8)).toNat:Int)))) (aD:= []) (some 74) (.rL .and (tm 73) (.const (.int .u8 63))) (jf (kk:= .u8) (a:=((u8 a1).toNat:Int)) (c:=((63:UInt8).toNat:Int)) (by kernel_rfl) (by kernel_rfl) (uS (u8 a1) (63:UInt8))) (zO (v:=(.d (.int .u8 (((128:UInt8) ||| ((u8 a1)&&&(63:UInt8))).toNat:Int)))) (aD:= []) (some 75) (.rL .or (.const (.int .u8 128)) (tm 74)) (jf (kk:= .u8) (a:=((128:UInt8).toNat:Int)) (c:=(((u8 a1)&&&(63:UInt8)).toNat:Int)) (by kernel_rfl) (by kernel_rfl) (qV (128:UInt8) ((u8 a1)&&&(63:UInt8)))) (zL 1 (aq hS (fun z7 kO hS=>zO (v:=(.r (.aL 0 2 0 z7.length))) (aD:= [(0,⟨2,some (.own 5 1 (cH.cells z7))⟩)]) (some 77) (.app 5 1 1 (tm 57) (tm 76)) (eM cH (b:=0) (g:=1) (n:=a2.length) (xs:=a2) (ys:= [((240:UInt8) ||| (u8 (Int.fdiv a1 (2^18)))),((128:UInt8) ||| ((u8 (Int.fdiv a1 (2^12)))&&&(63:UInt8))),((128:UInt8) ||| ((u8 (Int.fdiv a1 (2^6)))&&&(63:UInt8))),((128:UInt8) ||| ((u8 a1)&&&(63:UInt8)))]) ((congrArg (fP _) (by kernel_rfl:b8 _ (.tmp 76)=(.r (.aL 616 1 0 (([((240:UInt8) ||| (u8 (Int.fdiv a1 (2^18)))),((128:UInt8) ||| ((u8 (Int.fdiv a1 (2^12)))&&&(63:UInt8))),((128:UInt8) ||| ((u8 (Int.fdiv a1 (2^6)))&&&(63:UInt8))),((128:UInt8) ||| ((u8 a1)&&&(63:UInt8)))]:S8).length))))).trans (cZ cH (e:=5) (k:=1) (xs:= [((240:UInt8) ||| (u8 (Int.fdiv a1 (2^18)))),((128:UInt8) ||| ((u8 (Int.fdiv a1 (2^12)))&&&(63:UInt8))),((128:UInt8) ||| ((u8 (Int.fdiv a1 (2^6)))&&&(63:UInt8))),((128:UInt8) ||| ((u8 a1)&&&(63:UInt8)))]) (by kernel_rfl) rfl rfl)) rfl (by kernel_rfl) rfl (by kernel_rfl) rfl kO) (nL hS hQ))))))))))))))))))))))
   ·exact zL 2 (zK (zF (zS (zL 2 (aq hS (fun z8 iW hS=>zO (v:=(.r (.aL 0 2 0 z8.length))) (aD:= [(0,⟨2,some (.own 5 1 (cH.cells z8))⟩)]) (some 10) (.app 5 1 1 (tm 8) (tm 9)) (eM cH (b:=0) (g:=1) (n:=a2.length) (xs:=a2) (ys:= [239,191,189]) ((congrArg (fP _) (by kernel_rfl:b8 _ (.tmp 9)=(.r (.aL 80 1 0 (([239,191,189]:S8).length))))).trans (cZ cH (e:=5) (k:=1) (xs:= [239,191,189]) (by kernel_rfl) rfl rfl)) rfl (by kernel_rfl) rfl (by kernel_rfl) rfl iW) (nL hS hQ)))))))
  ·exact zL 5 (zK (zF (zS (zL 2 (aq hS (fun z9 jF hS=>zO (v:=(.r (.aL 0 2 0 z9.length))) (aD:= [(0,⟨2,some (.own 5 1 (cH.cells z9))⟩)]) (some 10) (.app 5 1 1 (tm 8) (tm 9)) (eM cH (b:=0) (g:=1) (n:=a2.length) (xs:=a2) (ys:= [239,191,189]) ((congrArg (fP _) (by kernel_rfl:b8 _ (.tmp 9)=(.r (.aL 80 1 0 (([239,191,189]:S8).length))))).trans (cZ cH (e:=5) (k:=1) (xs:= [239,191,189]) (by kernel_rfl) rfl rfl)) rfl (by kernel_rfl) rfl (by kernel_rfl) rfl jF) (nL hS hQ)))))))
def f160(a1:Int)(a2:S8):Option (S8):=(bif (decide ((IntKind.u32.wrap (a1))≤2047)) then ((eP 1 a2 ([((192:UInt8) ||| (u8 (Int.fdiv a1 (2^6)))),((128:UInt8) ||| ((u8 a1)&&&(63:UInt8)))]:S8)).bind fun z5=>(some z5)) else (bif (decide ((IntKind.u32.wrap (a1))<55296)) then (qd a1 a2 true) else (bif (decide (57343<(IntKind.u32.wrap (a1)))) then (bif (decide ((IntKind.u32.wrap (a1))≤65535)) then (qd a1 a2 true) else (qd a1 a2 false)) else (qd a1 a2 false))))
theorem apC{d:Nat}(hd:1≤d){a1:Int}{a2 r:S8}(hS:f160 a1 a2=some r):bZ ay aX d 160 [(.r (.aL 0 0 0 a2.length)),(.d (.int .i32 a1))] [(.own 5 1 (cH.cells a2))]=some ((.r (.aL 0 0 0 r.length)),[(.own 5 1 (cH.cells r))]):=by
 refine cI hd (fun Q hQ=>?_) afW
 unfold f160 at hS
 show ZR _ Q aav [] _
 replace hQ:FQ (ad8 r) Q:=hQ
 refine zS (zL 1 (zK (zS (zL 3 (zK (bw (zS (zL 1 (sB 13 hS (fun hS=>?_) (fun hS=>?_))))))))))
 ·exact zL 1 (zK (zT (zS (zL 3 (zO (v:=(.d (.int .u8 ((u8 (Int.fdiv a1 (2^6))).toNat:Int)))) (aD:= []) (some 17) (.kF .u8 (tm 16)) (gJ (kk:= .i32) (a:=(Int.fdiv a1 (2^6))) (by kernel_rfl) (iu _)) (zO (v:=(.d (.int .u8 (((192:UInt8) ||| (u8 (Int.fdiv a1 (2^6)))).toNat:Int)))) (aD:= []) (some 18) (.rL .or (.const (.int .u8 192)) (tm 17)) (jf (kk:= .u8) (a:=((192:UInt8).toNat:Int)) (c:=((u8 (Int.fdiv a1 (2^6))).toNat:Int)) (by kernel_rfl) (by kernel_rfl) (qV (192:UInt8) (u8 (Int.fdiv a1 (2^6))))) (zL 1 (zO (v:=(.d (.int .u8 ((u8 a1).toNat:Int)))) (aD:= []) (some 20) (.kF .u8 (tm 19)) (gJ (kk:= .i32) (a:=a1) (by kernel_rfl) (iu _)) (zO (v:=(.d (.int .u8 (((u8 a1)&&&(63:UInt8)).toNat:Int)))) (aD:= []) (some 21) (.rL .and (tm 20) (.const (.int .u8 63))) (jf (kk:= .u8) (a:=((u8 a1).toNat:Int)) (c:=((63:UInt8).toNat:Int)) (by kernel_rfl) (by kernel_rfl) (uS (u8 a1) (63:UInt8))) (zO (v:=(.d (.int .u8 (((128:UInt8) ||| ((u8 a1)&&&(63:UInt8))).toNat:Int)))) (aD:= []) (some 22) (.rL .or (.const (.int .u8 128)) (tm 21)) (jf (kk:= .u8) (a:=((128:UInt8).toNat:Int)) (c:=(((u8 a1)&&&(63:UInt8)).toNat:Int)) (by kernel_rfl) (by kernel_rfl) (qV (128:UInt8) ((u8 a1)&&&(63:UInt8)))) (zL 1 (aq hS (fun z5 jQ hS=>zO (v:=(.r (.aL 0 1 0 z5.length))) (aD:= [(0,⟨1,some (.own 5 1 (cH.cells z5))⟩)]) (some 24) (.app 5 1 1 (tm 14) (tm 23)) (eM cH (b:=0) (g:=0) (n:=a2.length) (xs:=a2) (ys:= [((192:UInt8) ||| (u8 (Int.fdiv a1 (2^6)))),((128:UInt8) ||| ((u8 a1)&&&(63:UInt8)))]) ((congrArg (fP _) (by kernel_rfl:b8 _ (.tmp 23)=(.r (.aL 192 1 0 (([((192:UInt8) ||| (u8 (Int.fdiv a1 (2^6)))),((128:UInt8) ||| ((u8 a1)&&&(63:UInt8)))]:S8).length))))).trans (cZ cH (e:=5) (k:=1) (xs:= [((192:UInt8) ||| (u8 (Int.fdiv a1 (2^6)))),((128:UInt8) ||| ((u8 a1)&&&(63:UInt8)))]) (by kernel_rfl) rfl rfl)) rfl (by kernel_rfl) rfl (by kernel_rfl) rfl jQ) (nL hS hQ))))))))))))))
 ·refine zL 1 (zK (zF (aC (zS (zL 1 (sB 27 hS (fun hS=>?_) (fun hS=>?_)))))))
  ·exact jL (tT hd hQ hS)
  ·refine zL 1 (zK (zF (a_ (zL 1 (sB 29 hS (fun hS=>?_) (fun hS=>?_))))))
   ·refine zL 2 (sB 32 hS (fun hS=>?_) (fun hS=>?_))
    ·exact zL 2 (zK (tT hd hQ hS _ (by kernel_rfl)))
    ·exact zL 2 (zK (tT hd hQ hS _ (by kernel_rfl)))
   ·exact jL (tT hd hQ hS)
/- unicode/utf8.AppendRune -/
def av3(r:S8)(e:PX)(st:St):Prop:=aU aay 1 ((.r (.aL 0 0 0 r.length)),[(.own 5 1 (cH.cells r))]) e st
def f115(a1:Int)(a2:S8):Option (S8):=(bif (decide ((IntKind.u32.wrap (a1))≤127)) then ((eP 1 a2 ([(u8 a1)]:S8)).bind fun z3=>(some z3)) else ((f160 a1 a2).bind fun z4=>(some z4)))
theorem za{d:Nat}(hd:2≤d){a1:Int}{a2 r:S8}(hS:f115 a1 a2=some r):bZ ay aX d 115 [(.r (.aL 0 0 0 a2.length)),(.d (.int .i32 a1))] [(.own 5 1 (cH.cells a2))]=some ((.r (.aL 0 0 0 r.length)),[(.own 5 1 (cH.cells r))]):=by
 refine cI hd (fun Q hQ=>?_) afO
 unfold f115 at hS
 show ZR _ Q aax [] _
 replace hQ:FQ (av3 r) Q:=hQ
 refine zS (zL 1 (zK (aC (zS (zL 2 (sB 7 hS (fun hS=>?_) (fun hS=>?_)))))))
 ·exact zK (zT (zS (zL 2 (zO (v:=(.d (.int .u8 ((u8 a1).toNat:Int)))) (aD:= []) (some 10) (.kF .u8 (tm 9)) (gJ (kk:= .i32) (a:=a1) (by kernel_rfl) (iu _)) (zL 1 (aq hS (fun z3 hz3 hS=>zO (v:=(.r (.aL 0 1 0 z3.length))) (aD:= [(0,⟨1,some (.own 5 1 (cH.cells z3))⟩)]) (some 12) (.app 5 1 1 (tm 8) (tm 11)) (eM cH (b:=0) (g:=0) (n:=a2.length) (xs:=a2) (ys:= [(u8 a1)]) ((congrArg (fP _) (by kernel_rfl:b8 _ (.tmp 11)=(.r (.aL 96 1 0 (([(u8 a1)]:S8).length))))).trans (cZ cH (e:=5) (k:=1) (xs:= [(u8 a1)]) (by kernel_rfl) rfl rfl)) rfl (by kernel_rfl) rfl (by kernel_rfl) rfl hz3) (nL hS hQ))))))))
 ·exact zK (zF (fV (cq (zS (zL 2 (aq hS (fun z4 iZ hS=>fW 15 [0] (apC (aV hd rfl) iZ) (nL hS hQ))))))))
/- farwriter/utf.Encode -/
def aAK(r:S8)(e:PX)(st:St):Prop:=aU c78 0 ((.d (.str r)),[]) e st
def ahF(a1:List Int)(x:S8×Int):St:=⟨(up (up (up (up u0 8 (dI x.2)) 7 (dI (a1.length:Int))) 6 (dL a1)) 3 (.r (.aL 32 0 0 x.1.length))),(up h0 32 ⟨0,some (.own 5 1 (cH.cells x.1))⟩)⟩
def vC(a1:List Int)(x:S8×Int)(st:St):Prop:=au [3,6,7,8] [(32,.id 32)] [] st=ahF a1 x
def Et(a1:List Int)(ny:S8):St:=⟨(up u0 3 (.r (.aL 32 0 0 ny.length))),(up h0 32 ⟨0,some (.own 5 1 (cH.cells ny))⟩)⟩
def A3(a1:List Int)(z:(S8))(e:PX)(st:St):Prop:=e= .exit 0∧st=Et a1 z
def Q9(a1:List Int)(fj:S8)(gf:Int):St:=⟨(up (up (up (up u0 8 (dI gf)) 7 (dI (a1.length:Int))) 6 (dL a1)) 3 (.r (.aL 32 0 0 fj.length))),(up h0 32 ⟨0,some (.own 5 1 (cH.cells fj))⟩)⟩
def sP(a1:List Int)(fj:S8)(gf:Int):Option ((S8×Int)⊕((S8))):=((idx a1 gf).bind fun z7=>(bif (decide (z7<0)) then ((f115 65533 fj).bind fun z8=>(some (.inl (z8,(IntKind.i64.wrap (gf+1)))))) else (bif (decide (1114111<z7)) then ((f115 65533 fj).bind fun z9=>(some (.inl (z9,(IntKind.i64.wrap (gf+1)))))) else (bif (decide (55296≤z7)) then (bif (decide (z7≤57343)) then ((f115 65533 fj).bind fun dh=>(some (.inl (dh,(IntKind.i64.wrap (gf+1)))))) else ((f115 (IntKind.i32.wrap (z7)) fj).bind fun cM=>(some (.inl (cM,(IntKind.i64.wrap (gf+1))))))) else ((f115 (IntKind.i32.wrap (z7)) fj).bind fun z12=>(some (.inl (z12,(IntKind.i64.wrap (gf+1))))))))))
theorem MC(hd:3≤d){a1:List Int}{r:(S8×Int)⊕((S8))}(hQ:FQ (bG (vC a1) (A3 a1) r) Q){fj:S8}{gf:Int}(hS:sP a1 fj gf=some r): ∀st,au [3,6,7,8] [(32,.id 32)] [] st=Q9 a1 fj gf→ZX d Q amn [] st:=by
 intro st he
 refine av he ?_
 unfold sP at hS
 refine aC (bw (zS (aq hS (fun z7 kO hS=>zO (v:=(.cD (eI.enc z7++(eI.cells (a1.drop ((gf:Int).toNat+1)))))) (aD:= []) (some 10) (.jc 3 1 (tm 6) (tm 8)) (eY eI (kk:= .i64) (xs:=a1) (j:=gf) (by kernel_rfl) (by kernel_rfl) kO rfl (by intro h;cases h)) (zL 2 (zK (aC (zS (zL 1 (sB 13 hS (fun hS=>?_) (fun hS=>?_)))))))))))
 ·exact zL 12 (zK (zT (a_ (zL 1 (zK (a_ (zL 3 (aq hS (fun z8 iW hS=>fW 29 [32] (za (aV hd rfl) iW) (lL hS hQ))))))))))
 ·refine zL 2 (sB 16 hS (fun hS=>?_) (fun hS=>?_))
  ·exact zL 9 (zK (zT (a_ (zL 1 (zK (a_ (zL 3 (aq hS (fun z9 jF hS=>fW 29 [32] (za (aV hd rfl) jF) (lL hS hQ))))))))))
  ·refine zL 3 (sB 20 hS (fun hS=>?_) (fun hS=>?_))
   ·refine zL 2 (sB 23 hS (fun hS=>?_) (fun hS=>?_))
    ·exact zL 2 (zK (zT (a_ (zL 1 (zK (a_ (zL 3 (aq hS (fun dh iT hS=>fW 29 [32] (za (aV hd rfl) iT) (lL hS hQ))))))))))
    ·exact zL 2 (zK (zF (fV (cq (a_ (zL 3 (aq hS (fun cM jN hS=>fW 29 [32] (za (aV hd rfl) jN) (lL hS hQ)))))))))
   ·exact zL 5 (zK (zF (fV (cq (a_ (zL 3 (aq hS (fun z12 gG hS=>fW 29 [32] (za (aV hd rfl) gG) (lL hS hQ)))))))))
def Q_(a1:List Int)(jq:S8)(ij:Int)(kS:Bool):St:=⟨(up (up (up (up (up u0 9 (dB kS)) 8 (dI ij)) 7 (dI (a1.length:Int))) 6 (dL a1)) 3 (.r (.aL 32 0 0 jq.length))),(up h0 32 ⟨0,some (.own 5 1 (cH.cells jq))⟩)⟩
def kT(a1:List Int)(jq:S8)(ij:Int)(kS:Bool):Option ((S8×Int)⊕((S8))):=(bif kS then (sP a1 jq ij) else (some (.inr jq)))
theorem B3(hd:3≤d){a1:List Int}{r:(S8×Int)⊕((S8))}(hQ:FQ (bG (vC a1) (A3 a1) r) Q){jq:S8}{ij:Int}{kS:Bool}(hS:kT a1 jq ij kS=some r): ∀st,au [3,6,7,8,9] [(32,.id 32)] [] st=Q_ a1 jq ij kS→ZX d Q amo [] st:=by
 intro st he
 refine av he ?_
 unfold kT at hS
 refine aC (sR 9 hS (fun hS=>?_) (fun hS=>?_))
 ·exact jR (MC hd hQ hS)
 ·exact zF (av (J:=Et a1 jq) (by kernel_rfl) (cX (cV (bg (jw hS hQ)))))
def pP(a1:List Int)(x:S8×Int):Option ((S8×Int)⊕((S8))):=(bif (decide (x.2<(a1.length:Int))) then (kT a1 x.1 x.2 true) else (kT a1 x.1 x.2 false))
theorem X4(hd:3≤d){a1:List Int}{r:(S8×Int)⊕((S8))}(hQ:FQ (bG (vC a1) (A3 a1) r) Q){x:S8×Int}(hS:pP a1 x=some r)(he:vC a1 x st):ZX d Q amp [] st:=by
 refine av he ?_
 unfold pP at hS
 refine zS (sB 9 hS (fun hS=>?_) (fun hS=>?_))
 ·exact zK (B3 hd hQ hS _ (by kernel_rfl))
 ·exact jL (B3 hd hQ hS)
def f78(a1:List Int):Option (S8):=((b9 (pP a1) ([],0)).bind fun dX=>(some dX))
theorem A4{d:Nat}(hd:3≤d){a1:List Int}{r:S8}(hS:f78 a1=some r):bZ ay aX d 78 [(dL a1)] []=some ((.d (.str r)),[]):=by
 refine cI hd (fun Q hQ=>?_) aoT
 unfold f78 at hS
 show ZR _ Q amq [] _
 replace hQ:FQ (aAK r) Q:=hQ
 refine zS (zL 1 (zK (zS (zL 1 (zK (aC (zS (zL 3 (zK (bw (aq hS (fun dX iU hS=>dF (vC a1) (A3 a1) (fun x st r Q h0 hS hQ=>X4 hd hQ hS h0) (x:=([],0)) (z:=dX) (by show au _ _ _ _=_;kernel_rfl) iU ?_))))))))))))
 intro e bl _ hX
 obtain ⟨rfl,rfl⟩:_∧_:=hX
 exact kq (cq (zS (zL 1 (zO (v:=(.d (.str dX))) (aD:= []) (some 32) (.tI (tm 31)) (DI (s:=dX) ((congrArg (fP _) (by kernel_rfl:b8 _ (.tmp 31)=(.r (.aL 32 0 0 dX.length)))).trans (cZ cH (e:=5) (k:=1) (xs:=dX) (by kernel_rfl) rfl rfl)) rfl) (nL hS hQ)))))
/- farwriter/press.character -/
def X5(r:S8)(e:PX)(st:St):Prop:=aU c65 0 ((.d (.str r)),[]) e st
def ahG(a1 a2:Int):St:=⟨(up u0 0 (dI a1)),h0⟩
def A5(a1 a2:Int):Option (S8):=((f78 [(cQ .and .i64 a1 31)]).bind fun z2=>(some z2))
theorem CZ(hd:4≤d){a1 a2:Int}{r:S8}(hQ:FQ (X5 r) Q)(hS:A5 a1 a2=some r): ∀st,au [0] [] [] st=ahG a1 a2→ZX d Q amr [.blk 0,.seq Xa] st:=by
 intro st he
 refine av he ?_
 unfold A5 at hS
 exact a_ (zL 3 (zE (rW (cq (zS (zL 2 (aq hS (fun z2 hz2 hS=>zO (some 33) (c1 78 32) (iK (args:= [(.r (.aL 264 1 0 (([(cQ .and .i64 a1 31)]:List Int).length)))]) (by kernel_rfl) (jy (uB eI (e:=3) (k:=1) (xs:= [(cQ .and .i64 a1 31)]) (by kernel_rfl) rfl rfl) mF) (A4 (aV hd rfl) hz2) (by kernel_rfl) (by kernel_rfl)) (nL hS hQ)))))))))
def ahH(a1 a2:Int):St:=⟨(up u0 0 (dI a1)),h0⟩
def xp(a1 a2:Int):Option (S8):=(bif (decide (a1=32)) then ((f78 [0]).bind fun z3=>(some z3)) else (bif (decide (a1=63)) then ((f78 [127]).bind fun z4=>(some z4)) else ((f78 [a1]).bind fun z5=>(some z5))))
theorem xq(hd:4≤d){a1 a2:Int}{r:S8}(hQ:FQ (X5 r) Q)(hS:xp a1 a2=some r): ∀st,au [0] [] [] st=ahH a1 a2→ZX d Q ams [.blk 0,.seq Xa] st:=by
 intro st he
 refine av he ?_
 unfold xp at hS
 refine zS (zL 1 (sB 27 hS (fun hS=>?_) (fun hS=>?_)))
 ·exact zL 1 (zK (zT (a_ (zL 1 (zE (rW (cq (zS (zL 2 (aq hS (fun z3 hz3 hS=>zO (some 33) (c1 78 32) (iK (args:= [(.r (.aL 264 1 0 (([0]:List Int).length)))]) (by kernel_rfl) (jy (uB eI (e:=3) (k:=1) (xs:= [0]) (by kernel_rfl) rfl rfl) mF) (A4 (aV hd rfl) hz3) (by kernel_rfl) (by kernel_rfl)) (nL hS hQ))))))))))))
 ·refine zL 1 (zK (zF (zS (zL 1 (sB 30 hS (fun hS=>?_) (fun hS=>?_))))))
  ·exact zL 1 (zK (zT (a_ (zL 1 (zE (rW (cq (zS (zL 2 (aq hS (fun z4 iZ hS=>zO (some 33) (c1 78 32) (iK (args:= [(.r (.aL 264 1 0 (([127]:List Int).length)))]) (by kernel_rfl) (jy (uB eI (e:=3) (k:=1) (xs:= [127]) (by kernel_rfl) rfl rfl) mF) (A4 (aV hd rfl) iZ) (by kernel_rfl) (by kernel_rfl)) (nL hS hQ))))))))))))
  ·exact zL 1 (zK (zF (fV (rW (cq (zS (zL 2 (aq hS (fun z5 jQ hS=>zO (some 33) (c1 78 32) (iK (args:= [(.r (.aL 264 1 0 (([a1]:List Int).length)))]) (by kernel_rfl) (jy (uB eI (e:=3) (k:=1) (xs:= [a1]) (by kernel_rfl) rfl rfl) mF) (A4 (aV hd rfl) jQ) (by kernel_rfl) (by kernel_rfl)) (nL hS hQ))))))))))
def f65(a1 a2:Int):Option (S8):=(bif (!decide ((cQ .and .i64 a2 4)=0)) then (bif (decide (64≤a1)) then (bif (decide (a1≤95)) then (A5 a1 a2) else (bif (decide (97≤a1)) then (bif (decide (a1≤122)) then (A5 a1 a2) else (xp a1 a2)) else (xp a1 a2))) else (bif (decide (97≤a1)) then (bif (decide (a1≤122)) then (A5 a1 a2) else (xp a1 a2)) else (xp a1 a2))) else ((f78 [a1]).bind fun z6=>(some z6)))
theorem av4{d:Nat}(hd:4≤d){a1 a2:Int}{r:S8}(hS:f65 a1 a2=some r):bZ ay aX d 65 [(dI a1),(dI a2)] []=some ((.d (.str r)),[]):=by
 refine cI hd (fun Q hQ=>?_) aoN
 unfold f65 at hS
 show ZR _ Q amt [] _
 replace hQ:FQ (X5 r) Q:=hQ
 refine zS (zL 1 (zK (aC (zS (zL 2 (sB 7 hS (fun hS=>?_) (fun hS=>?_)))))))
 ·refine zK (zT (bw (zS (zL 1 (sB 10 hS (fun hS=>?_) (fun hS=>?_))))))
  ·refine zL 2 (sB 13 hS (fun hS=>?_) (fun hS=>?_))
   ·exact zL 10 (zK (zT (CZ hd hQ hS _ (by kernel_rfl))))
   ·refine zL 3 (sB 17 hS (fun hS=>?_) (fun hS=>?_))
    ·refine zL 2 (sB 20 hS (fun hS=>?_) (fun hS=>?_))
     ·exact zL 3 (zK (zT (CZ hd hQ hS _ (by kernel_rfl))))
     ·exact zL 3 (zK (zF (xq hd hQ hS _ (by kernel_rfl))))
    ·exact zL 6 (zK (zF (xq hd hQ hS _ (by kernel_rfl))))
  ·refine zL 6 (sB 17 hS (fun hS=>?_) (fun hS=>?_))
   ·refine zL 2 (sB 20 hS (fun hS=>?_) (fun hS=>?_))
    ·exact zL 3 (zK (zT (CZ hd hQ hS _ (by kernel_rfl))))
    ·exact zL 3 (zK (zF (xq hd hQ hS _ (by kernel_rfl))))
   ·exact zL 6 (zK (zF (xq hd hQ hS _ (by kernel_rfl))))
 ·exact zK (zF (fV (cq (zS (zL 2 (aq hS (fun z6 l9 hS=>zO (some 33) (c1 78 32) (iK (args:= [(.r (.aL 264 1 0 (([a1]:List Int).length)))]) (by kernel_rfl) (jy (uB eI (e:=3) (k:=1) (xs:= [a1]) (by kernel_rfl) rfl rfl) mF) (A4 (aV hd rfl) l9) (by kernel_rfl) (by kernel_rfl)) (nL hS hQ))))))))
/- farwriter/press.plain -/
def X6(r:S8)(e:PX)(st:St):Prop:=aU c30 0 ((.d (.str r)),[]) e st
def ahI(a1:eD):St:=⟨(up u0 1 (pt 16)),(up h0 16 (DR a1))⟩
def Eu(a1:eD):Option (S8):=(bif (decide (a1.Name=25)) then (some [127]) else (bif (decide (a1.Name=26)) then (some [27]) else ((f65 a1.eB a1.eV).bind fun z2=>(some z2))))
theorem KJ(hd:5≤d){a1:eD}{r:S8}(hQ:FQ (X6 r) Q)(hS:Eu a1=some r): ∀st,au [1] [(16,.id 16)] [] st=ahI a1→ZX d Q amu [.blk 0,.seq Xb] st:=by
 intro st he
 refine av he ?_
 unfold Eu at hS
 refine zS (zL 2 (sB 34 hS (fun hS=>?_) (fun hS=>?_)))
 ·exact nL hS hQ
 ·refine zL 1 (zK (zF (zS (zL 2 (sB 38 hS (fun hS=>?_) (fun hS=>?_))))))
  ·exact nL hS hQ
  ·exact zL 1 (zK (zF (fV (rW (cq (zS (zL 4 (aq hS (fun z2 hz2 hS=>zC 43 (av4 (aV hd rfl) hz2) (nL hS hQ))))))))))
def ahJ(a1:eD):St:=⟨(up u0 1 (pt 16)),(up h0 16 (DR a1))⟩
def Ev(a1:eD):Option (S8):=(bif (decide (a1.Name=24)) then (some [9]) else (bif (decide (a1.Name=25)) then (bif (!decide ((cQ .and .i64 a1.eV 4)=0)) then (some [8]) else (Eu a1)) else (Eu a1)))
theorem KM(hd:5≤d){a1:eD}{r:S8}(hQ:FQ (X6 r) Q)(hS:Ev a1=some r): ∀st,au [1] [(16,.id 16)] [] st=ahJ a1→ZX d Q amv [.blk 0,.seq Xb] st:=by
 intro st he
 refine av he ?_
 unfold Ev at hS
 refine zS (zL 2 (sB 20 hS (fun hS=>?_) (fun hS=>?_)))
 ·exact nL hS hQ
 ·refine zL 1 (zK (zF (zS (zL 2 (sB 24 hS (fun hS=>?_) (fun hS=>?_))))))
  ·refine zL 4 (sB 29 hS (fun hS=>?_) (fun hS=>?_))
   ·exact nL hS hQ
   ·exact zL 2 (zK (zF (KJ hd hQ hS _ (by kernel_rfl))))
  ·exact jL (KJ hd hQ hS)
def f30(a1:eD):Option (S8):=(bif (decide (a1.Name=23)) then (some [13]) else (bif (decide (a1.Name=24)) then (bif (!decide ((cQ .and .i64 a1.eV 1)=0)) then (some [27,91,90]) else (Ev a1)) else (Ev a1)))
theorem av5{d:Nat}(hd:5≤d){a1:eD}{r:S8}(hS:f30 a1=some r):bZ ay aX d 30 [(.agg ((dI a1.Name)::((dI a1.eB)::((dI a1.eV):: []))))] []=some ((.d (.str r)),[]):=by
 refine cI hd (fun Q hQ=>?_) aon
 unfold f30 at hS
 show ZR _ Q amw [] _
 replace hQ:FQ (X6 r) Q:=hQ
 refine zS (zL 2 (zK (aC (bw (zS (zL 2 (sB 6 hS (fun hS=>?_) (fun hS=>?_))))))))
 ·exact nL hS hQ
 ·refine zL 1 (zK (zF (zS (zL 2 (sB 10 hS (fun hS=>?_) (fun hS=>?_))))))
  ·refine zL 4 (sB 15 hS (fun hS=>?_) (fun hS=>?_))
   ·exact nL hS hQ
   ·exact zL 2 (zK (zF (KM hd hQ hS _ (by kernel_rfl))))
  ·exact jL (KM hd hQ hS)
/- farwriter/press.Key -/
def GY(r:S8×Int)(e:PX)(st:St):Prop:=aU c8 0 ((.bH [(.d (.str r.1)),(dI r.2)]),[]) e st
def apD(a1:eD)(a2:Int):St:=⟨(up u0 2 (pt 24)),(up h0 24 (DR a1))⟩
def KN(a1:eD)(a2:Int):Option (S8×Int):=((f30 a1).bind fun z21=>(bif (!decide ((cQ .and .i64 a1.eV 2)=0)) then ((ep ([27]:S8) z21).bind fun z22=>(some (z22,0))) else (some (z21,0))))
theorem ahK(hd:6≤d){a1:eD}{a2:Int}{r:S8×Int}(hQ:FQ (GY r) Q)(hS:KN a1 a2=some r): ∀st,au [2] [(24,.id 24)] [] st=apD a1 a2→ZX d Q J_ [] st:=by
 intro st he
 refine av he ?_
 unfold KN at hS
 refine zS (zL 1 (aq hS (fun z21 p_ hS=>zC 110 (av5 (aV hd rfl) p_) (zL 1 (zK (aC (zS (zL 3 (sB 114 hS (fun hS=>?_) (fun hS=>?_))))))))))
 ·exact zK (zT (a_ (zL 1 (aq hS (fun z22 GJ hS=>zO (v:=(.d (.str z22))) (aD:= []) (some 116) (.jJ .add (.const (.string ⟨#[27]⟩)) (tm 115)) (gP (a:= [27]) (c:=z21) (by kernel_rfl) (by kernel_rfl) GJ) (nL hS hQ))))))
 ·exact nL hS hQ
def apE(a1:eD)(a2:Int):St:=⟨(up u0 2 (pt 24)),(up h0 24 (DR a1))⟩
def Ra(a1:eD)(a2:Int):Option (S8×Int):=(KN a1 a2)
theorem OB(hd:6≤d){a1:eD}{a2:Int}{r:S8×Int}(hQ:FQ (GY r) Q)(hS:Ra a1 a2=some r): ∀st,au [2] [(24,.id 24)] [] st=apE a1 a2→ZX d Q aye [.blk 0,.seq J_] st:=by
 intro st he
 refine av he ?_
 unfold Ra at hS
 exact jR (ahK hd hQ hS)
def apF(a1:eD)(a2:Int):St:=⟨(up (up u0 6 (dI a1.Name)) 2 (pt 24)),(up h0 24 (DR a1))⟩
def F5(a1:eD)(a2:Int):Option (S8×Int):=(bif (decide (14<a1.Name)) then (bif (decide (a1.Name<23)) then ((jO (IntKind.i64.wrap ((IntKind.i64.wrap (a1.Name-11))-4)) 8).bind fun m23=>((f29 (([15,17,18,19,20,21,23,24]:List Int).getD m23 0) a1.eV).bind fun z24=>(some (z24,0)))) else (Ra a1 a2)) else (Ra a1 a2))
theorem OC(hd:6≤d){a1:eD}{a2:Int}{r:S8×Int}(hQ:FQ (GY r) Q)(hS:F5 a1 a2=some r): ∀st,au [2,6] [(24,.id 24)] [] st=apF a1 a2→ZX d Q ayf [.blk 0,.seq J_] st:=by
 intro st he
 refine av he ?_
 unfold F5 at hS
 refine zS (zL 1 (sB 96 hS (fun hS=>?_) (fun hS=>?_)))
 ·refine zL 2 (sB 99 hS (fun hS=>?_) (fun hS=>?_))
  ·exact zL 2 (zK (zT (aC (cG (cy 4 (aq hS (fun m23 aps hS=>di (v:=(dI (([15,17,18,19,20,21,23,24]:List Int).getD m23 0))) (aD:= []) (some 105) none (.HE .false 8 1 (tm 101) (tm 104)) (Av eI (fun i=>([15,17,18,19,20,21,23,24]:List Int).getD i 0) (kk:= .i64) (j:=(IntKind.i64.wrap ((IntKind.i64.wrap (a1.Name-11))-4))) (by kernel_rfl) (by kernel_rfl) aps rfl (by kernel_rfl) (by kernel_rfl)) (cy 2 (aq hS (fun z24 qO hS=>di (some 108) none (.call 29 [(tm 105),(tm 107)]) (b_ (ad7 (aV hd rfl) qO)) (cy 2 (fG (nK hS hQ)))))))))))))
  ·exact zL 2 (zK (zF (OB hd hQ hS _ (by kernel_rfl))))
 ·exact jL (OB hd hQ hS)
def apG(a1:eD)(a2:Int):St:=⟨(up (up u0 6 (dI a1.Name)) 2 (pt 24)),(up h0 24 (DR a1))⟩
def F6(a1:eD)(a2:Int):Option (S8×Int):=(bif (decide (11≤a1.Name)) then (bif (decide (a1.Name≤14)) then ((idx ([80,81,82,83]:S8) (IntKind.i64.wrap (a1.Name-11))).bind fun z25=>((f28 [79] z25 a1.eV).bind fun z26=>(some (z26,0)))) else (F5 a1 a2)) else (F5 a1 a2))
theorem OD(hd:6≤d){a1:eD}{a2:Int}{r:S8×Int}(hQ:FQ (GY r) Q)(hS:F6 a1 a2=some r): ∀st,au [2,6] [(24,.id 24)] [] st=apG a1 a2→ZX d Q ayg [.blk 0,.seq J_] st:=by
 intro st he
 refine av he ?_
 unfold F6 at hS
 refine zS (zL 1 (sB 83 hS (fun hS=>?_) (fun hS=>?_)))
 ·refine zL 2 (sB 86 hS (fun hS=>?_) (fun hS=>?_))
  ·exact zL 2 (zK (zT (aC (cG (cy 2 (aq hS (fun z25 vB hS=>di (v:=(.d (.int .u8 (z25.toNat:Int)))) (aD:= []) (some 90) none (.iy (.const (.string ⟨#[80,81,82,83]⟩)) (tm 89)) (fA (kk:= .i64) (s:= [80,81,82,83]) (j:=(IntKind.i64.wrap (a1.Name-11))) (by kernel_rfl) (by kernel_rfl) vB) (cy 2 (aq hS (fun z26 uY hS=>di (some 93) none (.call 28 [(.const (.string ⟨#[79]⟩)),(tm 90),(tm 92)]) (b_ (ad6 (aV hd rfl) uY)) (cy 2 (fG (nK hS hQ)))))))))))))
  ·exact zL 2 (zK (zF (OC hd hQ hS _ (by kernel_rfl))))
 ·exact jL (OC hd hQ hS)
def apH(a1:eD)(a2:Int):St:=⟨(up (up u0 6 (dI a1.Name)) 2 (pt 24)),(up h0 24 (DR a1))⟩
def F7(a1:eD)(a2:Int):Option (S8×Int):=(bif (decide (7≤a1.Name)) then (bif (decide (a1.Name≤10)) then ((jO (IntKind.i64.wrap (a1.Name-7)) 4).bind fun m27=>((f29 (([2,3,5,6]:List Int).getD m27 0) a1.eV).bind fun z28=>(some (z28,0)))) else (F6 a1 a2)) else (F6 a1 a2))
theorem OE(hd:6≤d){a1:eD}{a2:Int}{r:S8×Int}(hQ:FQ (GY r) Q)(hS:F7 a1 a2=some r): ∀st,au [2,6] [(24,.id 24)] [] st=apH a1 a2→ZX d Q ayh [.blk 0,.seq J_] st:=by
 intro st he
 refine av he ?_
 unfold F7 at hS
 refine zS (zL 1 (sB 69 hS (fun hS=>?_) (fun hS=>?_)))
 ·refine zL 2 (sB 72 hS (fun hS=>?_) (fun hS=>?_))
  ·exact zL 2 (zK (zT (aC (cG (cy 3 (aq hS (fun m27 aDp hS=>di (v:=(dI (([2,3,5,6]:List Int).getD m27 0))) (aD:= []) (some 77) none (.HE .false 4 1 (tm 74) (tm 76)) (Av eI (fun i=>([2,3,5,6]:List Int).getD i 0) (kk:= .i64) (j:=(IntKind.i64.wrap (a1.Name-7))) (by kernel_rfl) (by kernel_rfl) aDp rfl (by kernel_rfl) (by kernel_rfl)) (cy 2 (aq hS (fun z28 TC hS=>di (some 80) none (.call 29 [(tm 77),(tm 79)]) (b_ (ad7 (aV hd rfl) TC)) (cy 2 (fG (nK hS hQ)))))))))))))
  ·exact zL 2 (zK (zF (OD hd hQ hS _ (by kernel_rfl))))
 ·exact jL (OD hd hQ hS)
def apI(a1:eD)(a2:Int)(en:S8):St:=⟨(up (up (up u0 7 (.d (.str en))) 6 (dI a1.Name)) 2 (pt 24)),(up h0 24 (DR a1))⟩
def uC(a1:eD)(a2:Int)(en:S8):Option (S8×Int):=((idx ([65,66,67,68,72,70]:S8) (IntKind.i64.wrap (a1.Name-1))).bind fun oZ=>((f28 en oZ a1.eV).bind fun KD=>(some (KD,0))))
theorem OG(hd:6≤d){a1:eD}{a2:Int}{r:S8×Int}(hQ:FQ (GY r) Q){en:S8}(hS:uC a1 a2 en=some r): ∀st,au [2,6,7] [(24,.id 24)] [] st=apI a1 a2 en→ZX d Q ayd [.blk 0,.seq J_] st:=by
 intro st he
 refine av he ?_
 unfold uC at hS
 exact aC (cG (cy 3 (aq hS (fun oZ KB hS=>di (v:=(.d (.int .u8 (oZ.toNat:Int)))) (aD:= []) (some 63) none (.iy (.const (.string ⟨#[65,66,67,68,72,70]⟩)) (tm 62)) (fA (kk:= .i64) (s:= [65,66,67,68,72,70]) (j:=(IntKind.i64.wrap (a1.Name-1))) (by kernel_rfl) (by kernel_rfl) KB) (cy 2 (aq hS (fun KD TX hS=>di (some 66) none (.call 28 [(tm 60),(tm 63),(tm 65)]) (b_ (ad6 (aV hd rfl) TX)) (cy 2 (fG (nK hS hQ))))))))))
def apJ(a1:eD)(a2:Int):St:=⟨(up (up u0 2 (pt 24)) 1 (dI a2)),(up h0 24 (DR a1))⟩
def lV(a1:eD)(a2:Int):Option (S8×Int):=(bif (decide (1≤a1.Name)) then (bif (decide (a1.Name≤6)) then (bif (!decide ((cQ .and .i64 a2 16)=0)) then (uC a1 a2 [79]) else (uC a1 a2 [91])) else (F7 a1 a2)) else (F7 a1 a2))
theorem A6(hd:6≤d){a1:eD}{a2:Int}{r:S8×Int}(hQ:FQ (GY r) Q)(hS:lV a1 a2=some r): ∀st,au [1,2] [(24,.id 24)] [] st=apJ a1 a2→ZX d Q ayi [] st:=by
 intro st he
 refine av he ?_
 unfold lV at hS
 refine zS (zL 3 (zK (aC (bw (zS (zL 1 (sB 52 hS (fun hS=>?_) (fun hS=>?_))))))))
 ·refine zL 2 (sB 55 hS (fun hS=>?_) (fun hS=>?_))
  ·refine zL 2 (zK (zT (zS (zL 1 (zK (aC (zS (zL 2 (sB 59 hS (fun hS=>?_) (fun hS=>?_))))))))))
   ·exact zK (zT (a_ (zL 1 (zK (OG hd hQ hS _ (by kernel_rfl))))))
   ·exact jL (OG hd hQ hS)
  ·exact zL 2 (zK (zF (OE hd hQ hS _ (by kernel_rfl))))
 ·exact jL (OE hd hQ hS)
def f8(a1:eD)(a2:Int):Option (S8×Int):=(bif (decide (a1.eV<0)) then (some ([],1)) else (bif (decide (7<a1.eV)) then (some ([],1)) else (bif (decide (a1.Name<0)) then (some ([],1)) else (bif (decide (26<a1.Name)) then (some ([],1)) else (bif (decide (a1.Name=0)) then ((f27 a1.eB).bind fun z31=>(bif (!z31) then (some ([],1)) else (bif (!decide (a1.Name=0)) then (bif (!decide (a1.eB=0)) then (some ([],1)) else (lV a1 a2)) else (lV a1 a2)))) else (bif (!decide (a1.Name=0)) then (bif (!decide (a1.eB=0)) then (some ([],1)) else (lV a1 a2)) else (lV a1 a2)))))))
theorem aAM{d:Nat}(hd:6≤d){a1:eD}{a2:Int}{r:S8×Int}(hS:f8 a1 a2=some r):bZ ay aX d 8 [(.agg ((dI a1.Name)::((dI a1.eB)::((dI a1.eV):: [])))),(dI a2)] []=some ((.bH [(.d (.str r.1)),(dI r.2)]),[]):=by
 refine cI hd (fun Q hQ=>?_) avE
 unfold f8 at hS
 show ZR _ Q ayj [] _
 replace hQ:FQ (GY r) Q:=hQ
 refine zS (zL 3 (zK (aC (zS (zL 2 (sB 11 hS (fun hS=>?_) (fun hS=>?_)))))))
 ·exact nL hS hQ
 ·refine zL 3 (sB 15 hS (fun hS=>?_) (fun hS=>?_))
  ·exact nL hS hQ
  ·refine zL 4 (sB 20 hS (fun hS=>?_) (fun hS=>?_))
   ·exact nL hS hQ
   ·refine zL 4 (sB 25 hS (fun hS=>?_) (fun hS=>?_))
    ·exact nL hS hQ
    ·refine zL 4 (sB 30 hS (fun hS=>?_) (fun hS=>?_))
     ·refine zL 3 (aq hS (fun z31 ad9 hS=>zG (some 34) 31 true (c1 27 33) (b_ (av2 (aV hd rfl) ad9)) (zL 4 (sL 38 hS (fun hS=>?_) (fun hS=>?_)))))
      ·exact nL hS hQ
      ·refine zL 2 (sB 41 hS (fun hS=>?_) (fun hS=>?_))
       ·refine zL 3 (sB 45 hS (fun hS=>?_) (fun hS=>?_))
        ·exact nL hS hQ
        ·exact jL (A6 hd hQ hS)
       ·exact jL (A6 hd hQ hS)
     ·refine zL 10 (sB 41 hS (fun hS=>?_) (fun hS=>?_))
      ·refine zL 3 (sB 45 hS (fun hS=>?_) (fun hS=>?_))
       ·exact nL hS hQ
       ·exact jL (A6 hd hQ hS)
      ·exact jL (A6 hd hQ hS)
/- (*farwriter/client.worker).us -/
def aAN(r:Bool)(e:PX)(st:St):Prop:=aU c46 0 ((dB r),[]) e st
def f46(a1:bf)(a2:List PD)(a3:Int):Option (Bool):=((jO a3 256).bind fun m2=>(bif (decide (((a1.Client.Neg.Us m2).toNat:Int)=1)) then (some true) else (some false)))
theorem ad_{d:Nat}(hd:1≤d){a1:bf}{a2:List PD}{a3:Int}{r:Bool}(hS:f46 a1 a2 a3=some r):bZ ay aX d 46 [(.cD (tN.enc a1++a2)),(dI a3)] []=some ((dB r),[]):=by
 refine cI hd (fun Q hQ=>?_) aox
 unfold f46 at hS
 show ZR _ Q amx [] _
 replace hQ:FQ (aAN r) Q:=hQ
 refine zS (zL 1 (zK (zS (zL 6 (aq hS (fun m2 Ua hS=>zO (v:=(.cD (List.drop (m2*1) ((tN.enc a1++a2).drop 45)))) (aD:= []) (some 11) (.tA 256 1 (tm 10) (tm 6)) (aaa (kk:= .i64) (j:=a3) (by kernel_rfl) (by kernel_rfl) Ua) (zO (v:=(.d (.int .u8 ((a1.Client.Neg.Us m2).toNat:Int)))) (aD:= []) (some 12) (lf 1 11) (NR cH (f:=a1.Client.Neg.Us) (nn:=256) (m:=m2) (post:=(cH.jX 256 a1.Client.Neg.fX++((cu .u64).jX 4 a1.Client.Neg.yV++((cu .u64).jX 4 a1.Client.Neg.sr++(.sl a1.Client.bN.Names.length (dN.cells a1.Client.bN.Names)::(.int .i64 a1.Client.bN.At::(.sl a1.Client.Vars.length (cY.cells a1.Client.Vars)::(cH.jX 19 a1.Client.Keys.iQ++(cH.jX 19 a1.Client.Keys.qC++((cu .u64).jX 4 a1.Client.Mask.Bits++(.str a1.Client.gB.oH::(.bool a1.Client.gB.Quote::(.bool a1.Client.kL::(.str a1.sent::a2)))))))))))))) (by kernel_rfl) (mh Ua) (by kernel_rfl) (by kernel_rfl)) (sB 13 hS (fun hS=>?_) (fun hS=>?_)))))))))
 ·exact nL hS hQ
 ·exact nL hS hQ
/- farwriter/nvt.Out -/
def apK(r:S8)(e:PX)(st:St):Prop:=aU c11 0 ((.d (.str r)),[]) e st
def ahL(a1:S8)(a2:Bool)(x:S8×Int):St:=⟨(up (up (up (up u0 11 (dI x.2)) 10 (dI (a1.length:Int))) 5 (.r (.aL 48 0 0 x.1.length))) 0 (.d (.str a1))),(up h0 48 ⟨0,some (.own 5 1 (cH.cells x.1))⟩)⟩
def vD(a1:S8)(a2:Bool)(x:S8×Int)(st:St):Prop:=au [0,5,10,11] [(48,.id 48)] [] st=ahL a1 a2 x
def Ew(a1:S8)(a2:Bool)(qG:S8):St:=⟨(up u0 5 (.r (.aL 48 0 0 qG.length))),(up h0 48 ⟨0,some (.own 5 1 (cH.cells qG))⟩)⟩
def A7(a1:S8)(a2:Bool)(z:(S8))(e:PX)(st:St):Prop:=e= .exit 0∧st=Ew a1 a2 z
def Rb(a1:S8)(a2:Bool)(fe:S8)(jk:Int):St:=⟨(up (up (up (up u0 11 (dI jk)) 10 (dI (a1.length:Int))) 5 (.r (.aL 48 0 0 fe.length))) 0 (.d (.str a1))),(up h0 48 ⟨0,some (.own 5 1 (cH.cells fe))⟩)⟩
def xu(a1:S8)(a2:Bool)(fe:S8)(jk:Int):Option ((S8×Int)⊕((S8))):=((idx a1 jk).bind fun dx=>(bif (decide ((dx.toNat:Int)=10)) then ((eP 1 fe ([13,10]:S8)).bind fun f_=>(some (.inl (f_,(IntKind.i64.wrap (jk+1)))))) else (bif (decide ((dx.toNat:Int)=13)) then ((eP 1 fe ([13,0]:S8)).bind fun gb=>(some (.inl (gb,(IntKind.i64.wrap (jk+1)))))) else ((idx a1 jk).bind fun gS=>((eP 1 fe ([gS]:S8)).bind fun z20=>(some (.inl (z20,(IntKind.i64.wrap (jk+1))))))))))
theorem MD(hd:1≤d){a1:S8}{a2:Bool}{r:(S8×Int)⊕((S8))}(hQ:FQ (bG (vD a1 a2) (A7 a1 a2) r) Q){fe:S8}{jk:Int}(hS:xu a1 a2 fe jk=some r): ∀st,au [0,5,10,11] [(48,.id 48)] [] st=Rb a1 a2 fe jk→ZX d Q amy [] st:=by
 intro st he
 refine av he ?_
 unfold xu at hS
 refine aC (bw (zS (zL 2 (zK (zS (zL 2 (aq hS (fun dx ju hS=>zO (v:=(.d (.int .u8 (dx.toNat:Int)))) (aD:= []) (some 16) (.iy (tm 14) (tm 15)) (fA (kk:= .i64) (s:=a1) (j:=jk) (by kernel_rfl) (by kernel_rfl) ju) (zK (bw (zS (sB 24 hS (fun hS=>?_) (fun hS=>?_)))))))))))))
 ·exact zL 1 (zK (zT (a_ (zL 2 (aq hS (fun f_ lH hS=>zO (v:=(.r (.aL 48 1 0 f_.length))) (aD:= [(48,⟨1,some (.own 5 1 (cH.cells f_))⟩)]) (some 27) (.app 5 1 1 (tm 25) (tm 26)) (eM cH (b:=48) (g:=0) (n:=fe.length) (xs:=fe) (ys:= [13,10]) ((congrArg (fP _) (by kernel_rfl:b8 _ (.tmp 26)=(.r (.aL 216 1 0 (([13,10]:S8).length))))).trans (cZ cH (e:=5) (k:=1) (xs:= [13,10]) (by kernel_rfl) rfl rfl)) rfl (by kernel_rfl) rfl (by kernel_rfl) rfl lH) (lL hS hQ)))))))
 ·refine zL 1 (zK (zF (zS (sB 29 hS (fun hS=>?_) (fun hS=>?_)))))
  ·exact zL 1 (zK (zT (a_ (zL 2 (aq hS (fun gb nN hS=>zO (v:=(.r (.aL 48 1 0 gb.length))) (aD:= [(48,⟨1,some (.own 5 1 (cH.cells gb))⟩)]) (some 32) (.app 5 1 1 (tm 30) (tm 31)) (eM cH (b:=48) (g:=0) (n:=fe.length) (xs:=fe) (ys:= [13,0]) ((congrArg (fP _) (by kernel_rfl:b8 _ (.tmp 31)=(.r (.aL 256 1 0 (([13,0]:S8).length))))).trans (cZ cH (e:=5) (k:=1) (xs:= [13,0]) (by kernel_rfl) rfl rfl)) rfl (by kernel_rfl) rfl (by kernel_rfl) rfl nN) (lL hS hQ)))))))
  ·exact zL 1 (zK (zF (a_ (zL 3 (aq hS (fun gS qM hS=>zO (v:=(.d (.int .u8 (gS.toNat:Int)))) (aD:= []) (some 20) (.iy (tm 18) (tm 19)) (fA (kk:= .i64) (s:=a1) (j:=jk) (by kernel_rfl) (by kernel_rfl) qM) (zL 1 (aq hS (fun z20 qN hS=>zO (v:=(.r (.aL 48 1 0 z20.length))) (aD:= [(48,⟨1,some (.own 5 1 (cH.cells z20))⟩)]) (some 22) (.app 5 1 1 (tm 17) (tm 21)) (eM cH (b:=48) (g:=0) (n:=fe.length) (xs:=fe) (ys:= [gS]) ((congrArg (fP _) (by kernel_rfl:b8 _ (.tmp 21)=(.r (.aL 176 1 0 (([gS]:S8).length))))).trans (cZ cH (e:=5) (k:=1) (xs:= [gS]) (by kernel_rfl) rfl rfl)) rfl (by kernel_rfl) rfl (by kernel_rfl) rfl qN) (lL hS hQ))))))))))
def Rc(a1:S8)(a2:Bool)(iY:S8)(iF:Int)(iG:Bool):St:=⟨(up (up (up (up (up u0 12 (dB iG)) 11 (dI iF)) 10 (dI (a1.length:Int))) 5 (.r (.aL 48 0 0 iY.length))) 0 (.d (.str a1))),(up h0 48 ⟨0,some (.own 5 1 (cH.cells iY))⟩)⟩
def pn(a1:S8)(a2:Bool)(iY:S8)(iF:Int)(iG:Bool):Option ((S8×Int)⊕((S8))):=(bif iG then (xu a1 a2 iY iF) else (some (.inr iY)))
theorem B4(hd:1≤d){a1:S8}{a2:Bool}{r:(S8×Int)⊕((S8))}(hQ:FQ (bG (vD a1 a2) (A7 a1 a2) r) Q){iY:S8}{iF:Int}{iG:Bool}(hS:pn a1 a2 iY iF iG=some r): ∀st,au [0,5,10,11,12] [(48,.id 48)] [] st=Rc a1 a2 iY iF iG→ZX d Q amz [] st:=by
 intro st he
 refine av he ?_
 unfold pn at hS
 refine aC (sR 12 hS (fun hS=>?_) (fun hS=>?_))
 ·exact jR (MD hd hQ hS)
 ·exact zF (av (J:=Ew a1 a2 iY) (by kernel_rfl) (cX (cV (bg (jw hS hQ)))))
def Ex(a1:S8)(a2:Bool)(x:S8×Int):Option ((S8×Int)⊕((S8))):=(bif (decide (x.2<(a1.length:Int))) then (pn a1 a2 x.1 x.2 true) else (pn a1 a2 x.1 x.2 false))
theorem X7(hd:1≤d){a1:S8}{a2:Bool}{r:(S8×Int)⊕((S8))}(hQ:FQ (bG (vD a1 a2) (A7 a1 a2) r) Q){x:S8×Int}(hS:Ex a1 a2 x=some r)(he:vD a1 a2 x st):ZX d Q amA [] st:=by
 refine av he ?_
 unfold Ex at hS
 refine zS (sB 12 hS (fun hS=>?_) (fun hS=>?_))
 ·exact zK (B4 hd hQ hS _ (by kernel_rfl))
 ·exact jL (B4 hd hQ hS)
def ahM(a1:S8)(a2:Bool):St:=⟨(up u0 0 (.d (.str a1))),h0⟩
def II(a1:S8)(a2:Bool):Option (S8):=((b9 (Ex a1 a2) ([],0)).bind fun z21=>(some z21))
theorem X8(hd:1≤d){a1:S8}{a2:Bool}{r:S8}(hQ:FQ (apK r) Q)(hS:II a1 a2=some r): ∀st,au [0] [] [] st=ahM a1 a2→ZX d Q amB [] st:=by
 intro st he
 refine av he ?_
 unfold II at hS
 refine zS (zL 1 (zK (aC (zS (zL 3 (zK (bw (aq hS (fun z21 p_ hS=>dF (vD a1 a2) (A7 a1 a2) (fun x st r Q h0 hS hQ=>X7 hd hQ hS h0) (x:=([],0)) (z:=z21) (by show au _ _ _ _=_;kernel_rfl) p_ ?_)))))))))
 intro e bl _ hX
 obtain ⟨rfl,rfl⟩:_∧_:=hX
 exact kq (cq (zS (zL 1 (zO (v:=(.d (.str z21))) (aD:= []) (some 35) (.tI (tm 34)) (DI (s:=z21) ((congrArg (fP _) (by kernel_rfl:b8 _ (.tmp 34)=(.r (.aL 48 0 0 z21.length)))).trans (cZ cH (e:=5) (k:=1) (xs:=z21) (by kernel_rfl) rfl rfl)) rfl) (nL hS hQ)))))
def f11(a1:S8)(a2:Bool):Option (S8):=(bif a2 then (some a1) else (II a1 a2))
theorem av6{d:Nat}(hd:1≤d){a1:S8}{a2:Bool}{r:S8}(hS:f11 a1 a2=some r):bZ ay aX d 11 [(.d (.str a1)),(dB a2)] []=some ((.d (.str r)),[]):=by
 refine cI hd (fun Q hQ=>?_) an8
 unfold f11 at hS
 show ZR _ Q amC [] _
 replace hQ:FQ (apK r) Q:=hQ
 refine zS (zL 1 (zK (aC (zS (zL 1 (zK (sR 7 hS (fun hS=>?_) (fun hS=>?_))))))))
 ·exact nR hS hQ
 ·exact jR (X8 hd hQ hS)
/- strings.ReplaceAll -/
theorem tU{d:Nat}(hd:0≤d){a1 a2:S8}{a3 r:S8}(hS:eT a1 a2 a3=some r):bZ ay aX d 32 [(.d (.str a1)),(.d (.str a2)),(.d (.str a3))] []=some ((.d (.str r)),[]):=oF (l:=libs) rfl rfl rfl (att hS) d
/- farwriter/iac.Escape -/
def aAO(r:S8)(e:PX)(st:St):Prop:=aU c10 0 ((.d (.str r)),[]) e st
def f10(a1:S8):Option (S8):=((eT a1 [255] [255,255]).bind fun z2=>(some z2))
theorem av7{d:Nat}(hd:1≤d){a1 r:S8}(hS:f10 a1=some r):bZ ay aX d 10 [(.d (.str a1))] []=some ((.d (.str r)),[]):=by
 refine cI hd (fun Q hQ=>?_) an7
 unfold f10 at hS
 show ZR _ Q amD [] _
 replace hQ:FQ (aAO r) Q:=hQ
 exact zS (zL 1 (zK (zS (zL 1 (aq hS (fun z2 hz2 hS=>zC 4 (tU (aV hd rfl) hz2) (nL hS hQ)))))))
/- (*farwriter/client.worker).text -/
def aAP(r:bf)(e:PX)(st:St):Prop:=aU c44 1 ((.bH []),[(wK r)]) e st
def f44(a1:S8)(a2:bf):Option (bf):=((f46 a2 [] 0).bind fun z5=>((f11 a1 z5).bind fun z6=>((f10 z6).bind fun z7=>((ep a2.sent z7).bind fun z8=>(some (bf.mk a2.Client z8))))))
theorem Re{d:Nat}(hd:2≤d){a1:S8}{a2 r:bf}(hS:f44 a1 a2=some r):bZ ay aX d 44 [(pt 0),(.d (.str a1))] [(wK a2)]=some ((.bH []),[(wK r)]):=by
 refine cI hd (fun Q hQ=>?_) aow
 unfold f44 at hS
 show ZR _ Q amE [] _
 replace hQ:FQ (aAP r) Q:=hQ
 exact cG (cy 6 (aq hS (fun z5 jQ hS=>di (some 10) none (.call 46 [(tm 9),(ki 0)]) (b_ (ad_ (aV hd rfl) jQ)) (aq hS (fun z6 l9 hS=>di (some 11) none (.call 11 [(tm 8),(tm 10)]) (b_ (av6 (aV hd rfl) l9)) (aq hS (fun z7 kO hS=>di (some 12) none (c1 10 11) (b_ (av7 (aV hd rfl) kO)) (aq hS (fun z8 iW hS=>di (v:=(.d (.str z8))) (aD:= []) (some 13) none (.jJ .add (tm 7) (tm 12)) (gP (a:=a2.sent) (c:=z7) (by kernel_rfl) (by kernel_rfl) iW) (cy 3 (fG (nK hS hQ))))))))))))
/- (*farwriter/client.worker).him -/
def aAQ(r:Bool)(e:PX)(st:St):Prop:=aU c76 0 ((dB r),[]) e st
def f76(a1:bf)(a2:List PD)(a3:Int):Option (Bool):=((jO a3 256).bind fun m2=>(bif (decide (((a1.Client.Neg.fX m2).toNat:Int)=1)) then (some true) else (some false)))
theorem av8{d:Nat}(hd:1≤d){a1:bf}{a2:List PD}{a3:Int}{r:Bool}(hS:f76 a1 a2 a3=some r):bZ ay aX d 76 [(.cD (tN.enc a1++a2)),(dI a3)] []=some ((dB r),[]):=by
 refine cI hd (fun Q hQ=>?_) aoR
 unfold f76 at hS
 show ZR _ Q amF [] _
 replace hQ:FQ (aAQ r) Q:=hQ
 refine zS (zL 1 (zK (zS (zL 6 (aq hS (fun m2 Ua hS=>zO (v:=(.cD (List.drop (m2*1) ((tN.enc a1++a2).drop 301)))) (aD:= []) (some 11) (.tA 256 1 (tm 10) (tm 6)) (aaa (kk:= .i64) (j:=a3) (by kernel_rfl) (by kernel_rfl) Ua) (zO (v:=(.d (.int .u8 ((a1.Client.Neg.fX m2).toNat:Int)))) (aD:= []) (some 12) (lf 1 11) (NR cH (f:=a1.Client.Neg.fX) (nn:=256) (m:=m2) (post:=((cu .u64).jX 4 a1.Client.Neg.yV++((cu .u64).jX 4 a1.Client.Neg.sr++(.sl a1.Client.bN.Names.length (dN.cells a1.Client.bN.Names)::(.int .i64 a1.Client.bN.At::(.sl a1.Client.Vars.length (cY.cells a1.Client.Vars)::(cH.jX 19 a1.Client.Keys.iQ++(cH.jX 19 a1.Client.Keys.qC++((cu .u64).jX 4 a1.Client.Mask.Bits++(.str a1.Client.gB.oH::(.bool a1.Client.gB.Quote::(.bool a1.Client.kL::(.str a1.sent::a2))))))))))))) (by kernel_rfl) (mh Ua) (by kernel_rfl) (by kernel_rfl)) (sB 13 hS (fun hS=>?_) (fun hS=>?_)))))))))
 ·exact nL hS hQ
 ·exact nL hS hQ
/- unicode/utf8.DecodeRuneInString -/
theorem Ey{d:Nat}(hd:0≤d){a1:S8}{r:(Int×Int)}(hS:iL a1=some r):bZ ay aX d 99 [(.d (.str a1))] []=some ((.bH [.d (.int .i32 r.1),.d (.int .i64 r.2)]),[]):=oF (l:=libs) rfl rfl rfl (aC7 hS) d
end
end Go.Proofs.YtimbfadnabfabaaGreatDoor.Pm
