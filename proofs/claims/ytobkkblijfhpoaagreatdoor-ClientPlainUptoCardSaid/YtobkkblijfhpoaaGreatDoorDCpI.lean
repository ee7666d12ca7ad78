/- Typed functions, and that the codes are these. Printed by dec.py. -/
import Derived.Test.YtobkkblijfhpoaaGreatDoorDCpH
namespace Go.Proofs.YtobkkblijfhpoaaGreatDoor.Pm
noncomputable section
set_option maxRecDepth 1000000
set_option maxHeartbeats 20000000
set_option linter.unusedVariables false
set_option linter.unusedSimpArgs false
variable {d : Nat} {Q : PQ} {st : St}
/- farwriter/farref.back -/
def aix(p1:bq):St:=⟨(up u0 2 (pt 24)),(up h0 24 (uO p1))⟩
theorem aiy(p1:bq):bA (aix p1) 0 Vb.res=some ((lT p1),[]):=by
 kernel_rfl
def avy(r:bq)(e:PX)(st:St):Prop:=bh Vb 0 ((lT r),[]) e st
def f182(a1:ah):Option (bq):=(some (bq.mk 0 0 a1.bM.b9))
theorem arh(d:Nat)(hd:1≤d)(a1:ah)(r:bq)(hS:f182 a1=some r):cg az bE d 182 [(.agg (av a1))] []=some ((lT r),[]):=by
 refine dN hd (fun Q hQ=>?_) agk
 unfold f182 at hS
 show ZR _ Q adP [] _
 replace hQ:FQ (avy r) Q:=hQ
 refine zS (zL 2 2 (zK (zS (zL 5 5 (zK ?_)))))
 exact aG (au (aM hS hQ (fR (aiy (bq.mk 0 0 a1.bM.b9)))))
/- farwriter/farref.GridScroll -/
def F3(a1:aV)(a2:Int)(a3:Int)(a4:Int)(a5:bq):Option (aV×Int):=if LD a1.bV a1.cC a1.Cells.length (ag.cells a1.Cells)=true∧(a5.Flags=0∧a5.cz=0∧a5.b9=0)∧a2=0∧a3=a1.cC∧a4=1 then some (⟨a1.bV,a1.cC,a1.Cells.drop a1.bV.toNat++List.replicate a1.bV.toNat ⟨32,⟨0,0,0⟩⟩⟩,0) else none
theorem Wp(d:Nat)(hd:0≤d)(a1:aV)(a2:Int)(a3:Int)(a4:Int)(a5:bq)(r:aV×Int)(hS:F3 a1 a2 a3 a4 a5=some r):cg az bE d 186 [(.agg (iZ a1)),(dI a2),(dI a3),(dI a4),(lT a5)] []=some ((.bZ [(.agg (iZ r.1)),(dI r.2)]),[]):=by
 unfold F3 at hS
 split at hS
 ·rename_i h
  obtain ⟨h1,⟨h2,h3,h4⟩,h5⟩:=h
  cases hS
  obtain ⟨x5,y5,z5⟩:=a5
  have h2:x5=0:=h2
  have h3:y5=0:=h3
  have h4:z5=0:=h4
  subst h2 h3 h4
  exact qp (l:=libs) rfl rfl rfl (Ur ag rfl ⟨32,⟨0,0,0⟩⟩ rfl h1 h5) d
 ·cases hS
/- farwriter/farref.Scrolled -/
def aiz(p1:ah):St:=⟨(up u0 8 (pt 72)),(up h0 72 ⟨0,some (.box (av p1))⟩)⟩
theorem aiA(p1:ah):bA (aiz p1) 0 Vc.res=some ((.agg (av p1)),[]):=by
 kernel_rfl
def avz(r:ah)(e:PX)(st:St):Prop:=bh Vc 0 ((.agg (av r)),[]) e st
def f136(a1:ah)(a2:Int)(a3:Int)(a4:Int):Option (ah):=((f182 a1).bind fun z3=>((F3 a1.aT a2 a3 a4 z3).bind fun z4=>(some ({a1 with aT:=z4.1,eL:=false}))))
theorem ME(d:Nat)(hd:2≤d)(a1:ah)(a2:Int)(a3:Int)(a4:Int)(r:ah)(hS:f136 a1 a2 a3 a4=some r):cg az bE d 136 [(.agg (av a1)),(dI a2),(dI a3),(dI a4)] []=some ((.agg (av r)),[]):=by
 refine dN hd (fun Q hQ=>?_) af6
 unfold f136 at hS
 show ZR _ Q adQ [] _
 replace hQ:FQ (avz r) Q:=hQ
 refine zS (zL 2 2 (zK (ay ?_)))
 refine ez (dx 6 6 (ak hS (fun z3 hz3 hS=>eT (some 16) 7 none (c1 182 15) (aW (arh (d-1) (bO hd rfl) a1 z3 hz3)) (ak hS (fun z4 jR hS=>eT (v:=(.bZ [(.agg (iZ z4.1)),(dI z4.2)])) (aH:= []) (some 17) 8 none (.eR 186 [(tm 11),(tm 12),(tm 13),(tm 14),(tm 16)]) (dP (args:= [(.agg (BP a1)),(dI a2),(dI a3),(dI a4),(lT z3)]) (args':= [(.agg (BP a1)),(dI a2),(dI a3),(dI a4),(lT z3)]) (l:= [(.agg (BP a1)),(dI a2),(dI a3),(dI a4),(lT z3)]) (refs:= []) (r:=(.bZ [(.agg (iZ z4.1)),(dI z4.2)])) (v:=(.bZ [(.agg (iZ z4.1)),(dI z4.2)])) (gN:= []) (by kernel_rfl) (by kernel_rfl) (by kernel_rfl) (aY rfl (aY rfl (aY rfl (aY rfl (aY rfl eU))))) (by kernel_rfl) (Wp (d-1) (bO hd rfl) a1.aT a2 a3 a4 z3 z4 jR) (by kernel_rfl) (by kernel_rfl) (by kernel_rfl) (by kernel_rfl)) (dx 5 13 (iC (aq (zS (zL 2 2 (zK (zS (zL 2 2 (zK ?_))))))))))))))
 exact aG (au (aM hS hQ (fR (aiA ({a1 with aT:=z4.1,eL:=false})))))
/- farwriter/farref.Indexed -/
def aiB(p3:ah):St:=⟨(up u0 2 (pt 24)),(up h0 24 ⟨0,some (.box (av p3))⟩)⟩
theorem A4(p3:ah):bA (aiB p3) 0 Vd.res=some ((.agg (av p3)),[]):=by
 kernel_rfl
def aei(r:ah)(e:PX)(st:St):Prop:=bh Vd 0 ((.agg (av r)),[]) e st
def aad(a1:ah):St:=⟨(up (up u0 2 (pt 24)) 1 (pt 16)),(up (up h0 24 jq) 16 ⟨0,some (.box (av a1))⟩)⟩
def F4(a1:ah):Option (ah):=(bif (decide (a1.jo=0)) then ((f131 a1 256).bind fun z21=>(bif (!z21) then ((f179 a1.cD).bind fun z22=>((f180 a1.aT).bind fun z23=>((iJ 0 z23.length).bind fun m24=>((z23[m24]?).bind fun z25=>((fT 24 z22 ([(bk.mk z25)]:List bk)).bind fun z26=>((gz (decide (0≤(if (IntKind.i64.wrap ((z26.length:Int)-40))>0 then (IntKind.i64.wrap ((z26.length:Int)-40)) else 0))&&decide ((if (IntKind.i64.wrap ((z26.length:Int)-40))>0 then (IntKind.i64.wrap ((z26.length:Int)-40)) else 0)≤(z26.length:Int))&&decide ((z26.length:Int)≤(z26.length:Int)))).bind fun j4=>((kq z26 (((if (IntKind.i64.wrap ((z26.length:Int)-40))>0 then (IntKind.i64.wrap ((z26.length:Int)-40)) else 0):Int).toNat) (((z26.length:Int):Int).toNat-((if (IntKind.i64.wrap ((z26.length:Int)-40))>0 then (IntKind.i64.wrap ((z26.length:Int)-40)) else 0):Int).toNat)).bind fun z28=>((f136 ({a1 with cD:=z28}) a1.jo a1.dy 1).bind fun mj=>(some mj))))))))) else ((f136 a1 a1.jo a1.dy 1).bind fun jS=>(some jS)))) else ((f136 a1 a1.jo a1.dy 1).bind fun z31=>(some z31)))
theorem Wq(hd:3≤d)(a1:ah){r:ah}(hQ:FQ (aei r) Q)(hS:F4 a1=some r)(he:aA [1,2] [(16,.id 16),(24,.id 24)] [.cell 24 2 0 0 1,.cell 24 30 0 0 1,.cell 24 32 0 0 1] st=aad a1):ZX d Q adR [] st:=by
 refine aC he ?_
 unfold F4 at hS
 refine ay (zS (zL 2 2 ?_))
 refine sB 19 3 (ck 18 0) hS (fun hS=>?_) (fun hS=>?_)
 ·refine zL 2 5 (ak hS (fun z21 qY hS=>zG (some 22) 6 20 true (.call 131 [(tm 21),(ki 256)]) (aW (Af (d-1) (bO hd rfl) a1 256 z21 qY)) (zL 2 8 (zK ?_))))
  refine sR 24 hS (fun hS=>?_) (fun hS=>?_)
  ·refine zT (ay ?_)
   refine ez (dx 2 2 (ak hS (fun z22 uD hS=>eT (v:=(.r (.aI 224 1 0 z22.length))) (aH:= [(224,⟨1,some (.own 91 1 (bJ.cells z22))⟩)]) (some 27) 3 none (.eR 179 [(tm 26)]) (dP (args:= [(fC a1)]) (args':= [(fC a1)]) (l:= [(fC a1)]) (refs:= []) (r:=(.r (.own 0 91 1 z22.length (bJ.cells z22)))) (v:=(.r (.aI 224 1 0 z22.length))) (gN:= [(224,⟨1,some (.own 91 1 (bJ.cells z22))⟩)]) (by kernel_rfl) (by kernel_rfl) (by kernel_rfl) (aY rfl eU) (by kernel_rfl) (arf (d-1) (bO hd rfl) a1.cD z22 uD) (by kernel_rfl) (by kernel_rfl) (by kernel_rfl) (by kernel_rfl)) (dx 2 5 (ak hS (fun z23 qJ hS=>eT (v:=(.r (.aI 248 1 0 z23.length))) (aH:= [(248,⟨1,some (.own 32 1 ((d_ ag).cells z23))⟩)]) (some 30) 6 none (.eR 180 [(tm 29)]) (dP (args:= [(.agg (BP a1))]) (args':= [(.agg (BP a1))]) (l:= [(.agg (BP a1))]) (refs:= []) (r:=(.r (.own 0 32 1 z23.length ((d_ ag).cells z23)))) (v:=(.r (.aI 248 1 0 z23.length))) (gN:= [(248,⟨1,some (.own 32 1 ((d_ ag).cells z23))⟩)]) (by kernel_rfl) (by kernel_rfl) (by kernel_rfl) (aY rfl eU) (by kernel_rfl) (KV (d-1) (bO hd rfl) a1.aT z23 qJ) (by kernel_rfl) (by kernel_rfl) (by kernel_rfl) (by kernel_rfl)) (ak hS (fun m24 aqY hS=>eT (v:=(.r (.ptr 248 1 ((0+m24)*1)))) (aH:= []) (some 31) 7 none (.fQ 32 1 (tm 30) (ki 0)) (iK (kk:= .i64) (b:=248) (g:=1) (l:=0) (n:=z23.length) (j:=0) (cs:=(d_ ag).cells z23) (by kernel_rfl) (by kernel_rfl) (by kernel_rfl) aqY) (ak hS (fun z25 nL hS=>eT (v:=(dE ag z25)) (aH:= []) (some 32) 8 none (lf 1 31) (jl (d_ ag) (b:=248) (g:=1) (o:=(0+m24)*1) (e:=32) (k:=1) (m:=m24) (fo:=0) (xs:=z23) (by kernel_rfl) (by kernel_rfl) (by rw [Nat.zero_add];rfl) nL (by kernel_rfl) (by kernel_rfl) (by kernel_rfl)) (dx 2 10 (ak hS (fun z26 nt hS=>eT (v:=(.r (.aI 224 2 0 z26.length))) (aH:= [(224,⟨2,some (.own 91 1 (bJ.cells z26))⟩)]) (some 35) 11 none (.app 91 1 24 (tm 27) (tm 34)) (fJ bJ (b:=224) (g:=1) (n:=z22.length) (xs:=z22) (ys:= [(bk.mk z25)]) ((congrArg (gm _) (by kernel_rfl:cK _ (.tmp 34)=(.r (.aI 280 1 0 (([(bk.mk z25)]:List bk).length))))).trans (en bJ (e:=91) (k:=1) (xs:= [(bk.mk z25)]) (by kernel_rfl) rfl rfl)) rfl (by kernel_rfl) rfl (by kernel_rfl) rfl nt) (dx 1 12 (iC (aq (aN (zL 5 5 ?_))))))))))))))))))
   refine ak hS (fun j4 sD hS=>zO (v:=(.r (.aI 224 2 (((if (IntKind.i64.wrap ((z26.length:Int)-40))>0 then (IntKind.i64.wrap ((z26.length:Int)-40)) else 0):Int).toNat) (((z26.length:Int):Int).toNat-((if (IntKind.i64.wrap ((z26.length:Int)-40))>0 then (IntKind.i64.wrap ((z26.length:Int)-40)) else 0):Int).toNat)))) (aH:= []) (some 41) 6 (.tD 91 1 (tm 36) (.some (tm 40)) .none) (DY (b:=224) (g:=2) (e:=91) (a:=(if (IntKind.i64.wrap ((z26.length:Int)-40))>0 then (IntKind.i64.wrap ((z26.length:Int)-40)) else 0)) (c:=(z26.length:Int)) (l:=0) (n:=z26.length) (l':=(((if (IntKind.i64.wrap ((z26.length:Int)-40))>0 then (IntKind.i64.wrap ((z26.length:Int)-40)) else 0):Int).toNat)) (n':=(((z26.length:Int):Int).toNat-((if (IntKind.i64.wrap ((z26.length:Int)-40))>0 then (IntKind.i64.wrap ((z26.length:Int)-40)) else 0):Int).toNat)) (cs:=bJ.cells z26) (by kernel_rfl) (by kernel_rfl) (jQ _ (kk:= .i64) (j:=(if (IntKind.i64.wrap ((z26.length:Int)-40))>0 then (IntKind.i64.wrap ((z26.length:Int)-40)) else 0)) (by kernel_rfl)) (tJ _) sD (by simp) rfl) (zL 2 8 (zK (zS (zL 5 5 ?_)))))
   refine ak hS (fun z28 Vp hS=>ak hS (fun mj yX hS=>zO (v:=(.agg (av mj))) (aH:= [(224,⟨3,none⟩)]) (some 48) 6 (.eR 136 [(tm 43),(tm 45),(tm 47),(ki 1)]) (dP (args:= [(.agg (gK a1 (gV a1) (iR a1) (.r (.aI 224 2 (((if (IntKind.i64.wrap ((z26.length:Int)-40))>0 then (IntKind.i64.wrap ((z26.length:Int)-40)) else 0):Int).toNat) (((z26.length:Int):Int).toNat-((if (IntKind.i64.wrap ((z26.length:Int)-40))>0 then (IntKind.i64.wrap ((z26.length:Int)-40)) else 0):Int).toNat))))),(dI a1.jo),(dI a1.dy),(dI 1)]) (args':= [(.agg (gK a1 (gV a1) (iR a1) (dE bJ z28))),(dI a1.jo),(dI a1.dy),(dI 1)]) (l:= [(.agg (gK a1 (gV a1) (iR a1) (dE bJ z28))),(dI a1.jo),(dI a1.dy),(dI 1)]) (refs:= [224]) (r:=(.agg (av mj))) (v:=(.agg (av mj))) (gN:= []) (by kernel_rfl) (by kernel_rfl) (by kernel_rfl) (aY (as2 (aY (by kernel_rfl) (aY (by kernel_rfl) (aY (by kernel_rfl) (aY (by kernel_rfl) (aY (by kernel_rfl) (aY (by kernel_rfl) (aY (by kernel_rfl) (aY (by kernel_rfl) (aY (by kernel_rfl) (aY (by kernel_rfl) (aY (by kernel_rfl) (aY (by kernel_rfl) (as3 (as9 (dR .u64)) (aY (by kernel_rfl) (aY (by kernel_rfl) (aY (by kernel_rfl) (aY (by kernel_rfl) (aY (by kernel_rfl) (aY (by kernel_rfl) (aY (by kernel_rfl) (aY (by kernel_rfl) (aY (by kernel_rfl) (aY (by kernel_rfl) (aY (by kernel_rfl) (aY (by kernel_rfl) (aY (by kernel_rfl) (aY (by kernel_rfl) (aY (by kernel_rfl) (aY (by kernel_rfl) (aY (akm bJ (e:=91) (k:=1) (xs:=z26) (by kernel_rfl) (by kernel_rfl) rfl Vp) eU))))))))))))))))))))))))))))))) (aY rfl (aY rfl (aY rfl eU)))) (by kernel_rfl) (ME (d-1) (bO hd rfl) ({a1 with cD:=z28}) a1.jo a1.dy 1 mj yX) (by kernel_rfl) (by kernel_rfl) (by kernel_rfl) (by kernel_rfl)) (zL 1 7 (zK ?_))))
   exact aG (au (aM hS hQ (fR (A4 mj))))
  ·refine zF (aJ (aq (zS (zL 5 5 ?_))))
   refine ak hS (fun jS yY hS=>zO (v:=(.agg (av jS))) (aH:= []) (some 48) 6 (.eR 136 [(tm 43),(tm 45),(tm 47),(ki 1)]) (dP (args:= [(.agg (av a1)),(dI a1.jo),(dI a1.dy),(dI 1)]) (args':= [(.agg (av a1)),(dI a1.jo),(dI a1.dy),(dI 1)]) (l:= [(.agg (av a1)),(dI a1.jo),(dI a1.dy),(dI 1)]) (refs:= []) (r:=(.agg (av jS))) (v:=(.agg (av jS))) (gN:= []) (by kernel_rfl) (by kernel_rfl) (by kernel_rfl) (aY rfl (aY rfl (aY rfl (aY rfl eU)))) (by kernel_rfl) (ME (d-1) (bO hd rfl) a1 a1.jo a1.dy 1 jS yY) (by kernel_rfl) (by kernel_rfl) (by kernel_rfl) (by kernel_rfl)) (zL 1 7 (zK ?_)))
   exact aG (au (aM hS hQ (fR (A4 jS))))
 ·refine zL 5 8 (zK (zF ?_))
  refine aJ (aq (zS (zL 5 5 ?_)))
  refine ak hS (fun z31 Ep hS=>zO (v:=(.agg (av z31))) (aH:= []) (some 48) 6 (.eR 136 [(tm 43),(tm 45),(tm 47),(ki 1)]) (dP (args:= [(.agg (av a1)),(dI a1.jo),(dI a1.dy),(dI 1)]) (args':= [(.agg (av a1)),(dI a1.jo),(dI a1.dy),(dI 1)]) (l:= [(.agg (av a1)),(dI a1.jo),(dI a1.dy),(dI 1)]) (refs:= []) (r:=(.agg (av z31))) (v:=(.agg (av z31))) (gN:= []) (by kernel_rfl) (by kernel_rfl) (by kernel_rfl) (aY rfl (aY rfl (aY rfl (aY rfl eU)))) (by kernel_rfl) (ME (d-1) (bO hd rfl) a1 a1.jo a1.dy 1 z31 Ep) (by kernel_rfl) (by kernel_rfl) (by kernel_rfl) (by kernel_rfl)) (zL 1 7 (zK ?_)))
  exact aG (au (aM hS hQ (fR (A4 z31))))
def f130(a1:ah):Option (ah):=(bif (!decide ((IntKind.i64.wrap (a1.Row+1))=a1.dy)) then ((f134 a1 (IntKind.i64.wrap (a1.Row+1)) a1.dS).bind fun sg=>(some sg)) else (F4 a1))
theorem MF(d:Nat)(hd:3≤d)(a1:ah)(r:ah)(hS:f130 a1=some r):cg az bE d 130 [(.agg (av a1))] []=some ((.agg (av r)),[]):=by
 refine dN hd (fun Q hQ=>?_) af3
 unfold f130 at hS
 show ZR _ Q adS [] _
 replace hQ:FQ (aei r) Q:=hQ
 refine zS (zL 2 2 (zK (ay (zS (zL 5 5 ?_)))))
 refine sB 9 6 (.a_ .neq (tm 6) (tm 8)) hS (fun hS=>?_) (fun hS=>?_)
 ·refine zK (zT (zS (zL 6 6 ?_)))
  refine ak hS (fun sg Im hS=>zO (v:=(.agg (av sg))) (aH:= []) (some 16) 7 (.eR 134 [(tm 10),(tm 13),(tm 15)]) (dP (args:= [(.agg (av a1)),(dI (IntKind.i64.wrap (a1.Row+1))),(dI a1.dS)]) (args':= [(.agg (av a1)),(dI (IntKind.i64.wrap (a1.Row+1))),(dI a1.dS)]) (l:= [(.agg (av a1)),(dI (IntKind.i64.wrap (a1.Row+1))),(dI a1.dS)]) (refs:= []) (r:=(.agg (av sg))) (v:=(.agg (av sg))) (gN:= []) (by kernel_rfl) (by kernel_rfl) (by kernel_rfl) (aY rfl (aY rfl (aY rfl eU))) (by kernel_rfl) (Ae (d-1) (bO hd rfl) a1 (IntKind.i64.wrap (a1.Row+1)) a1.dS sg Im) (by kernel_rfl) (by kernel_rfl) (by kernel_rfl) (by kernel_rfl)) (zL 1 8 (zK ?_)))
  exact aG (bD (au (aM hS hQ (fR (A4 sg)))))
 ·refine zK (zF ?_)
  exact aJ (aq (Wq hd a1 hQ hS (by kernel_rfl)))
/- farwriter/farref.GridPut -/
def PT(a1:aV)(a2:Int)(a3:Int)(a4:Int)(a5:bq):Option (aV×Int):=if LD a1.bV a1.cC a1.Cells.length (ag.cells a1.Cells)=true∧(a5.Flags=0∧a5.cz=0∧a5.b9=0)∧(32≤a4∧a4≤126)∧(0≤a2∧a2<a1.cC)∧0≤a3∧a3<a1.bV then some (⟨a1.bV,a1.cC,a1.Cells.set (a2*a1.bV+a3).toNat ⟨a4,⟨0,0,0⟩⟩⟩,0) else none
theorem ari(d:Nat)(hd:0≤d)(a1:aV)(a2:Int)(a3:Int)(a4:Int)(a5:bq)(r:aV×Int)(hS:PT a1 a2 a3 a4 a5=some r):cg az bE d 133 [(.agg (iZ a1)),(dI a2),(dI a3),(dI a4),(lT a5)] []=some ((.bZ [(.agg (iZ r.1)),(dI r.2)]),[]):=by
 unfold PT at hS
 split at hS
 ·rename_i h
  obtain ⟨h1,⟨h2,h3,h4⟩,h5⟩:=h
  cases hS
  obtain ⟨x5,y5,z5⟩:=a5
  have h2:x5=0:=h2
  have h3:y5=0:=h3
  have h4:z5=0:=h4
  subst h2 h3 h4
  exact qp (l:=libs) rfl rfl rfl (alc ag rfl ⟨a4,⟨0,0,0⟩⟩ rfl h1 h5) d
 ·cases hS
/- farwriter/farref.Printed -/
def arj(lz:ah):St:=⟨(up u0 4 (pt 40)),(up h0 40 ⟨0,some (.box (av lz))⟩)⟩
theorem Ag(lz:ah):bA (arj lz) 0 c77.res=some ((.agg (av lz)),[]):=by
 kernel_rfl
def Di(r:ah)(e:PX)(st:St):Prop:=bh c77 0 ((.agg (av r)),[]) e st
def aiC(a1:ah)(a2:Int)(nG:ah)(Df:Int)(mz:Bool):St:=⟨(up (up (up (up u0 6 (dB mz)) 5 (dI Df)) 4 (pt 40)) 2 (pt 24)),(up (up h0 40 jq) 24 ⟨0,some (.box (av nG))⟩)⟩
def A5(a1:ah)(a2:Int)(nG:ah)(Df:Int)(mz:Bool):Option (ah):=((f134 nG nG.Row (IntKind.i64.wrap (nG.dS+Df))).bind fun z31=>(bif mz then ((f131 z31 4).bind fun sg=>(some ({z31 with eL:=sg}))) else (some ({z31 with eL:=false}))))
theorem MG(hd:4≤d)(a1:ah)(a2:Int){r:ah}(hQ:FQ (Di r) Q)(nG:ah)(Df:Int)(mz:Bool)(hS:A5 a1 a2 nG Df mz=some r)(he:aA [2,4,5,6] [(24,.id 24),(40,.id 40)] [] st=aiC a1 a2 nG Df mz):ZX d Q anZ [] st:=by
 refine aC he ?_
 unfold A5 at hS
 refine zS (zL 7 7 ?_)
 refine ak hS (fun z31 Ep hS=>zO (v:=(.agg (av z31))) (aH:= []) (some 84) 8 (.eR 134 [(tm 77),(tm 79),(tm 83)]) (dP (args:= [(.agg (av nG)),(dI nG.Row),(dI (IntKind.i64.wrap (nG.dS+Df)))]) (args':= [(.agg (av nG)),(dI nG.Row),(dI (IntKind.i64.wrap (nG.dS+Df)))]) (l:= [(.agg (av nG)),(dI nG.Row),(dI (IntKind.i64.wrap (nG.dS+Df)))]) (refs:= []) (r:=(.agg (av z31))) (v:=(.agg (av z31))) (gN:= []) (by kernel_rfl) (by kernel_rfl) (by kernel_rfl) (aY rfl (aY rfl (aY rfl eU))) (by kernel_rfl) (Ae (d-1) (bO hd rfl) nG nG.Row (IntKind.i64.wrap (nG.dS+Df)) z31 Ep) (by kernel_rfl) (by kernel_rfl) (by kernel_rfl) (by kernel_rfl)) (zL 1 9 (zK (zS (zL 2 2 ?_)))))
 refine sL 86 hS (fun hS=>?_) (fun hS=>?_)
 ·refine zL 1 3 (ak hS (fun sg Im hS=>zG (some 88) 4 86 true (.call 131 [(tm 87),(ki 4)]) (aW (Af (d-1) (bO hd rfl) z31 4 sg Im)) (zL 3 7 (zK (zS (zL 2 2 (zK ?_)))))))
  exact aG (au (aM hS hQ (fR (Ag ({z31 with eL:=sg})))))
 ·refine zL 5 7 (zK (zS (zL 2 2 (zK ?_))))
  exact aG (au (aM hS hQ (fR (Ag ({z31 with eL:=false})))))
def aiD(a1:ah)(a2:Int)(n7:Int)(fy:ah)(pK:Int):St:=⟨(up (up (up (up u0 5 (dI pK)) 4 (pt 40)) 2 (pt 24)) 1 (dI n7)),(up (up h0 40 jq) 24 ⟨0,some (.box (av fy))⟩)⟩
def JD(a1:ah)(a2:Int)(n7:Int)(fy:ah)(pK:Int):Option (ah):=((PT fy.aT fy.Row fy.dS n7 fy.bM).bind fun jS=>(bif (decide (jS.1.bV≤(IntKind.i64.wrap (fy.dS+pK)))) then (A5 a1 a2 ({fy with aT:=jS.1}) pK true) else (A5 a1 a2 ({fy with aT:=jS.1}) pK false)))
theorem aae(hd:4≤d)(a1:ah)(a2:Int){r:ah}(hQ:FQ (Di r) Q)(n7:Int)(fy:ah)(pK:Int)(hS:JD a1 a2 n7 fy pK=some r)(he:aA [1,2,4,5] [(24,.id 24),(40,.id 40)] [] st=aiD a1 a2 n7 fy pK):ZX d Q an0 [] st:=by
 refine aC he ?_
 unfold JD at hS
 refine zS (zL 9 9 ?_)
 refine ak hS (fun jS yY hS=>zO (v:=(.bZ [(.agg (iZ jS.1)),(dI jS.2)])) (aH:= []) (some 65) 10 (.eR 133 [(tm 57),(tm 59),(tm 61),(tm 62),(tm 64)]) (dP (args:= [(.agg (BP fy)),(dI fy.Row),(dI fy.dS),(dI n7),(lT fy.bM)]) (args':= [(.agg (BP fy)),(dI fy.Row),(dI fy.dS),(dI n7),(lT fy.bM)]) (l:= [(.agg (BP fy)),(dI fy.Row),(dI fy.dS),(dI n7),(lT fy.bM)]) (refs:= []) (r:=(.bZ [(.agg (iZ jS.1)),(dI jS.2)])) (v:=(.bZ [(.agg (iZ jS.1)),(dI jS.2)])) (gN:= []) (by kernel_rfl) (by kernel_rfl) (by kernel_rfl) (aY rfl (aY rfl (aY rfl (aY rfl (aY rfl eU))))) (by kernel_rfl) (ari (d-1) (bO hd rfl) fy.aT fy.Row fy.dS n7 fy.bM jS yY) (by kernel_rfl) (by kernel_rfl) (by kernel_rfl) (by kernel_rfl)) (zL 5 15 (zK (zS (zL 7 7 ?_)))))
 refine sB 76 8 (.a_ .geq (tm 72) (tm 75)) hS (fun hS=>?_) (fun hS=>?_)
 ·refine zL 1 9 (zK ?_)
  exact MG hd a1 a2 hQ ({fy with aT:=jS.1}) pK true hS (by kernel_rfl)
 ·refine zL 1 9 (zK ?_)
  exact MG hd a1 a2 hQ ({fy with aT:=jS.1}) pK false hS (by kernel_rfl)
def aiE(a1:ah)(a2:Int)(fL:Int)(j6:ah)(pX:Int):St:=⟨(up (up (up (up u0 5 (dI pX)) 4 (pt 40)) 2 (pt 24)) 1 (dI fL)),(up (up h0 40 jq) 24 ⟨0,some (.box (av j6))⟩)⟩
def F5(a1:ah)(a2:Int)(fL:Int)(j6:ah)(pX:Int):Option (ah):=((f131 j6 1).bind fun z33=>(bif z33 then none else (JD a1 a2 fL j6 pX)))
theorem MH(hd:4≤d)(a1:ah)(a2:Int){r:ah}(hQ:FQ (Di r) Q)(fL:Int)(j6:ah)(pX:Int)(hS:F5 a1 a2 fL j6 pX=some r)(he:aA [1,2,4,5] [(24,.id 24),(40,.id 40)] [] st=aiE a1 a2 fL j6 pX):ZX d Q an1 [] st:=by
 refine aC he ?_
 unfold F5 at hS
 refine ay (zS (zL 1 1 ?_))
 refine ak hS (fun z33 Pr hS=>zO (some 51) 2 (.call 131 [(tm 50),(ki 1)]) (aW (Af (d-1) (bO hd rfl) j6 1 z33 Pr)) (zK ?_))
 refine sR 51 hS (fun hS=>?_) (fun hS=>?_)
 ·refine zT (aN (zL 2 2 ?_))
  cases hS
 ·exact zF (aJ (aq (aae hd a1 a2 hQ fL j6 pX hS (by kernel_rfl))))
def aiF(a1:ah)(a2:Int)(nu:Int)(vu:ah)(gF:Int):St:=⟨(up (up (up (up u0 5 (dI gF)) 4 (pt 40)) 2 (pt 24)) 1 (dI nu)),(up (up h0 40 jq) 24 ⟨0,some (.box (av vu))⟩)⟩
def xk(a1:ah)(a2:Int)(nu:Int)(vu:ah)(gF:Int):Option (ah):=(bif (decide (vu.aT.bV<(IntKind.i64.wrap (vu.dS+gF)))) then ((f131 vu 4).bind fun Fj=>(bif (!Fj) then (some vu) else ((f130 ({vu with dS:=0})).bind fun tX=>(F5 a1 a2 nu tX gF)))) else (F5 a1 a2 nu vu gF))
theorem MI(hd:4≤d)(a1:ah)(a2:Int){r:ah}(hQ:FQ (Di r) Q)(nu:Int)(vu:ah)(gF:Int)(hS:xk a1 a2 nu vu gF=some r)(he:aA [1,2,4,5] [(24,.id 24),(40,.id 40)] [] st=aiF a1 a2 nu vu gF):ZX d Q an2 [] st:=by
 refine aC he ?_
 unfold xk at hS
 refine ay (zS (zL 7 7 ?_))
 refine sB 42 8 (.a_ .gtr (tm 38) (tm 41)) hS (fun hS=>?_) (fun hS=>?_)
 ·refine zK (zT (ay (zS (zL 1 1 ?_))))
  refine ak hS (fun Fj Io hS=>zO (some 44) 2 (.call 131 [(tm 43),(ki 4)]) (aW (Af (d-1) (bO hd rfl) vu 4 Fj Io)) (zL 1 3 (zK ?_)))
  refine sR 45 hS (fun hS=>?_) (fun hS=>?_)
  ·refine zT (zS (zL 2 2 (zK ?_)))
   exact aG (bD (bD (au (aM hS hQ (fR (Ag vu))))))
  ·refine zF (aJ (aq (zS (zL 2 2 (zK (aN (zL 1 1 ?_)))))))
   refine ak hS (fun tX Me hS=>zO (v:=(.agg (av tX))) (aH:= []) (some 49) 2 (.eR 130 [(tm 48)]) (dP (args:= [(q4_ vu)]) (args':= [(q4_ vu)]) (l:= [(q4_ vu)]) (refs:= []) (r:=(.agg (av tX))) (v:=(.agg (av tX))) (gN:= []) (by kernel_rfl) (by kernel_rfl) (by kernel_rfl) (aY rfl eU) (by kernel_rfl) (MF (d-1) (bO hd rfl) ({vu with dS:=0}) tX Me) (by kernel_rfl) (by kernel_rfl) (by kernel_rfl) (by kernel_rfl)) (zL 1 3 (zK ?_)))
   exact MH hd a1 a2 hQ nu tX gF hS (by kernel_rfl)
 ·refine zK (zF ?_)
  exact aJ (aq (MH hd a1 a2 hQ nu vu gF hS (by kernel_rfl)))
def aiG(a1:ah)(a2:Int)(lV:Int)(h_:Int):St:=⟨(up (up (up (up u0 5 (dI h_)) 4 (pt 40)) 2 (pt 24)) 1 (dI lV)),(up (up h0 40 jq) 24 ⟨0,some (.box (av a1))⟩)⟩
def JE(a1:ah)(a2:Int)(lV:Int)(h_:Int):Option (ah):=(bif a1.eL then ((f130 ({a1 with dS:=0})).bind fun xW=>(xk a1 a2 lV xW h_)) else (xk a1 a2 lV a1 h_))
theorem aaf(hd:4≤d)(a1:ah)(a2:Int){r:ah}(hQ:FQ (Di r) Q)(lV:Int)(h_:Int)(hS:JE a1 a2 lV h_=some r)(he:aA [1,2,4,5] [(24,.id 24),(40,.id 40)] [] st=aiG a1 a2 lV h_):ZX d Q an3 [] st:=by
 refine aC he ?_
 unfold JE at hS
 refine ay (zS (zL 2 2 (zK ?_)))
 refine sR 31 hS (fun hS=>?_) (fun hS=>?_)
 ·refine zT (zS (zL 2 2 (zK (aN (zL 1 1 ?_)))))
  refine ak hS (fun xW aqE hS=>zO (v:=(.agg (av xW))) (aH:= []) (some 34) 2 (.eR 130 [(tm 33)]) (dP (args:= [(q4_ a1)]) (args':= [(q4_ a1)]) (l:= [(q4_ a1)]) (refs:= []) (r:=(.agg (av xW))) (v:=(.agg (av xW))) (gN:= []) (by kernel_rfl) (by kernel_rfl) (by kernel_rfl) (aY rfl eU) (by kernel_rfl) (MF (d-1) (bO hd rfl) ({a1 with dS:=0}) xW aqE) (by kernel_rfl) (by kernel_rfl) (by kernel_rfl) (by kernel_rfl)) (zL 1 3 (zK ?_)))
  exact MI hd a1 a2 hQ lV xW h_ hS (by kernel_rfl)
 ·exact zF (aJ (aq (MI hd a1 a2 hQ lV a1 h_ hS (by kernel_rfl))))
def aiH(a1:ah)(a2:Int)(xm:Int):St:=⟨(up (up (up u0 4 (pt 40)) 2 (pt 24)) 1 (dI xm)),(up (up h0 40 jq) 24 ⟨0,some (.box (av a1))⟩)⟩
def A6(a1:ah)(a2:Int)(xm:Int):Option (ah):=((f129 xm).bind fun z25=>(bif (decide (z25=0)) then (some a1) else (bif (decide (a1.aT.bV<z25)) then (some a1) else (JE a1 a2 xm z25))))
theorem Dj(hd:4≤d)(a1:ah)(a2:Int){r:ah}(hQ:FQ (Di r) Q)(xm:Int)(hS:A6 a1 a2 xm=some r)(he:aA [1,2,4] [(24,.id 24),(40,.id 40)] [.cell 40 2 0 0 1,.cell 40 30 0 0 1,.cell 40 32 0 0 1] st=aiH a1 a2 xm):ZX d Q an4 [] st:=by
 refine aC he ?_
 unfold A6 at hS
 refine zS (zL 1 1 ?_)
 refine ak hS (fun z25 nL hS=>zO (some 19) 2 (c1 129 18) (aW (uH (d-1) (bO hd rfl) xm z25 nL)) (zL 1 3 (zK (ay (zS (zL 1 1 ?_))))))
 refine sB 21 2 (ck 20 0) hS (fun hS=>?_) (fun hS=>?_)
 ·refine zL 7 9 (zK (zT (zS (zL 2 2 (zK ?_)))))
  exact aG (bD (au (aM hS hQ (fR (Ag a1)))))
 ·refine zL 5 7 (sH 27 8 22 false (.a_ .gtr (tm 23) (tm 26)) hS (fun hS=>?_) (fun hS=>?_))
  ·refine zL 1 9 (zK (zT (zS (zL 2 2 (zK ?_)))))
   exact aG (bD (au (aM hS hQ (fR (Ag a1)))))
  ·refine zL 1 9 (zK (zF ?_))
   exact aJ (aq (aaf hd a1 a2 hQ xm z25 hS (by kernel_rfl)))
def f77(a1:ah)(a2:Int):Option (ah):=((f127 a2 0 127).bind fun z37=>(bif z37 then ((iJ a1.dF 2).bind fun m38=>(bif (decide (m38=0)) then ((f128 a1.bY.1).bind fun tU=>((iJ a2 tU.length).bind fun m40=>((tU[m40]?).bind fun Q_=>(A6 a1 a2 Q_)))) else ((f128 a1.bY.2).bind fun IQ=>((iJ a2 IQ.length).bind fun m43=>((IQ[m43]?).bind fun z44=>(A6 a1 a2 z44)))))) else (A6 a1 a2 a2)))
theorem avA(d:Nat)(hd:4≤d)(a1:ah)(a2:Int)(r:ah)(hS:f77 a1 a2=some r):cg az bE d 77 [(.agg (av a1)),(dI a2)] []=some ((.agg (av r)),[]):=by
 refine dN hd (fun Q hQ=>?_) apa
 unfold f77 at hS
 show ZR _ Q an5 [] _
 replace hQ:FQ (Di r) Q:=hQ
 refine zS (zL 2 2 (zK (ay (zS (zL 1 1 ?_)))))
 refine ak hS (fun z37 E1 hS=>zO (some 8) 2 (.call 127 [(tm 7),(ki 0),(ki 127)]) (aW (jm (d-1) (bO hd rfl) a2 0 127 z37 E1)) (zK ?_))
 refine sR 8 hS (fun hS=>?_) (fun hS=>?_)
 ·refine zT (aN (zL 3 3 ?_))
  refine ak hS (fun m38 aw0 hS=>akh (decide (m38=0)) (fun MJ=>?_) (fun MJ=>?_))
  ·replace hS:=kX MJ hS
   refine zO (v:=(.r (.ptr 24 1 16))) (aH:= []) (some 12) 4 (.xZ 2 1 (tm 11) (tm 10)) (Tv (kk:= .i64) (b:=24) (g:=1) (o:=16) (j:=a1.dF) (m:=m38) (by kernel_rfl) (by kernel_rfl) aw0 MJ) (zL 1 5 (ak hS (fun tU Ik hS=>zO (some 14) 6 (c1 128 13) (aW (Wn (d-1) (bO hd rfl) a1.bY.1 tU Ik)) (zL 1 7 (ak hS (fun m40 aBJ hS=>zO (v:=(.r (.ptr 120 1 ((0+m40)*1)))) (aH:= []) (some 16) 8 (.fQ 3 1 (tm 14) (tm 15)) (iK (kk:= .i64) (b:=120) (g:=1) (l:=0) (n:=tU.length) (j:=a2) (cs:=eI.cells tU) (by kernel_rfl) (by kernel_rfl) (by kernel_rfl) aBJ) (ak hS (fun Q_ apv hS=>zO (v:=(dI Q_)) (aH:= []) (some 17) 9 (lf 1 16) (jl eI (b:=120) (g:=1) (o:=(0+m40)*1) (e:=3) (k:=1) (m:=m40) (fo:=0) (xs:=tU) (by kernel_rfl) (by kernel_rfl) (by rw [Nat.zero_add];rfl) apv (by kernel_rfl) (by kernel_rfl) (by kernel_rfl)) (zL 1 10 (zK ?_))))))))))
   exact Dj hd a1 a2 hQ Q_ hS (by kernel_rfl)
  ·replace hS:=kY MJ hS
   refine zO (v:=(.r (.ptr 24 1 17))) (aH:= []) (some 12) 4 (.xZ 2 1 (tm 11) (tm 10)) (Tw (kk:= .i64) (b:=24) (g:=1) (o:=16) (j:=a1.dF) (m:=m38) (by kernel_rfl) (by kernel_rfl) aw0 MJ) (zL 1 5 (ak hS (fun IQ apw hS=>zO (some 14) 6 (c1 128 13) (aW (Wn (d-1) (bO hd rfl) a1.bY.2 IQ apw)) (zL 1 7 (ak hS (fun m43 aBK hS=>zO (v:=(.r (.ptr 120 1 ((0+m43)*1)))) (aH:= []) (some 16) 8 (.fQ 3 1 (tm 14) (tm 15)) (iK (kk:= .i64) (b:=120) (g:=1) (l:=0) (n:=IQ.length) (j:=a2) (cs:=eI.cells IQ) (by kernel_rfl) (by kernel_rfl) (by kernel_rfl) aBK) (ak hS (fun z44 Vi hS=>zO (v:=(dI z44)) (aH:= []) (some 17) 9 (lf 1 16) (jl eI (b:=120) (g:=1) (o:=(0+m43)*1) (e:=3) (k:=1) (m:=m43) (fo:=0) (xs:=IQ) (by kernel_rfl) (by kernel_rfl) (by rw [Nat.zero_add];rfl) Vi (by kernel_rfl) (by kernel_rfl) (by kernel_rfl)) (zL 1 10 (zK ?_))))))))))
   exact Dj hd a1 a2 hQ z44 hS (by kernel_rfl)
 ·exact zF (aJ (aq (Dj hd a1 a2 hQ a2 hS (by kernel_rfl))))
/- farwriter/farref.controlled -/
def aro(fE:ah):St:=⟨(up u0 4 (pt 40)),(up h0 40 ⟨0,some (.box (av fE))⟩)⟩
theorem rT(fE:ah):bA (aro fE) 0 c78.res=some ((.agg (av fE)),[]):=by
 kernel_rfl
def arp(r:ah)(e:PX)(st:St):Prop:=bh c78 0 ((.agg (av r)),[]) e st
def aiI(a1:ah)(a2:Int)(dW:Bool):St:=⟨(up (up (up (up u0 35 (dB dW)) 7 (dI a2)) 4 (pt 40)) 2 (pt 24)),(up (up h0 40 jq) 24 ⟨0,some (.box (av a1))⟩)⟩
def xo(a1:ah)(a2:Int)(dW:Bool):Option (ah):=(bif dW then ((f130 a1).bind fun z7=>((f131 z7 128).bind fun z8=>(bif z8 then ((f134 z7 z7.Row 0).bind fun z9=>(some z9)) else (some z7)))) else (bif (decide (a2=13)) then ((f134 a1 a1.Row 0).bind fun cO=>(some cO)) else (bif (decide (a2=14)) then (some ({a1 with dF:=1})) else (bif (decide (a2=15)) then (some ({a1 with dF:=0})) else (some a1)))))
theorem xp(hd:4≤d)(a1:ah)(a2:Int){r:ah}(hQ:FQ (arp r) Q)(dW:Bool)(hS:xo a1 a2 dW=some r)(he:aA [2,4,7,35] [(24,.id 24),(40,.id 40)] [.cell 40 2 0 0 1,.cell 40 30 0 0 1,.cell 40 32 0 0 1] st=aiI a1 a2 dW):ZX d Q an7 [.blk 0,.seq an8] st:=by
 refine aC he ?_
 unfold xo at hS
 refine sR 35 hS (fun hS=>?_) (fun hS=>?_)
 ·refine zT (zS (zL 1 1 ?_))
  refine ak hS (fun z7 tW hS=>zO (v:=(.agg (av z7))) (aH:= []) (some 40) 2 (.eR 130 [(tm 39)]) (dP (args:= [(.agg (av a1))]) (args':= [(.agg (av a1))]) (l:= [(.agg (av a1))]) (refs:= []) (r:=(.agg (av z7))) (v:=(.agg (av z7))) (gN:= []) (by kernel_rfl) (by kernel_rfl) (by kernel_rfl) (aY rfl eU) (by kernel_rfl) (MF (d-1) (bO hd rfl) a1 z7 tW) (by kernel_rfl) (by kernel_rfl) (by kernel_rfl) (by kernel_rfl)) (zL 1 3 (zK (zS (zL 1 1 ?_)))))
  refine ak hS (fun z8 wC hS=>zO (some 42) 2 (.call 131 [(tm 41),(ki 128)]) (aW (Af (d-1) (bO hd rfl) z7 128 z8 wC)) (zK ?_))
  refine sR 42 hS (fun hS=>?_) (fun hS=>?_)
  ·refine zT (aN (zL 3 3 ?_))
   refine ak hS (fun z9 zx hS=>zO (v:=(.agg (av z9))) (aH:= []) (some 46) 4 (.eR 134 [(tm 43),(tm 45),(ki 0)]) (dP (args:= [(.agg (av z7)),(dI z7.Row),(dI 0)]) (args':= [(.agg (av z7)),(dI z7.Row),(dI 0)]) (l:= [(.agg (av z7)),(dI z7.Row),(dI 0)]) (refs:= []) (r:=(.agg (av z9))) (v:=(.agg (av z9))) (gN:= []) (by kernel_rfl) (by kernel_rfl) (by kernel_rfl) (aY rfl (aY rfl (aY rfl eU))) (by kernel_rfl) (Ae (d-1) (bO hd rfl) z7 z7.Row 0 z9 zx) (by kernel_rfl) (by kernel_rfl) (by kernel_rfl) (by kernel_rfl)) (zL 1 5 (zE ?_)))
   refine cq (aq (zS (zL 2 2 (zK ?_))))
   exact aG (au (aM hS hQ (fR (rT z9))))
  ·refine zF (aJ (cq (aq (zS (zL 2 2 (zK ?_))))))
   exact aG (au (aM hS hQ (fR (rT z7))))
 ·refine zF (zS ?_)
  refine sB 48 1 (ck 7 13) hS (fun hS=>?_) (fun hS=>?_)
  ·refine zL 1 2 (zK (zT (zS (zL 3 3 ?_))))
   refine ak hS (fun cO jn hS=>zO (v:=(.agg (av cO))) (aH:= []) (some 52) 4 (.eR 134 [(tm 49),(tm 51),(ki 0)]) (dP (args:= [(.agg (av a1)),(dI a1.Row),(dI 0)]) (args':= [(.agg (av a1)),(dI a1.Row),(dI 0)]) (l:= [(.agg (av a1)),(dI a1.Row),(dI 0)]) (refs:= []) (r:=(.agg (av cO))) (v:=(.agg (av cO))) (gN:= []) (by kernel_rfl) (by kernel_rfl) (by kernel_rfl) (aY rfl (aY rfl (aY rfl eU))) (by kernel_rfl) (Ae (d-1) (bO hd rfl) a1 a1.Row 0 cO jn) (by kernel_rfl) (by kernel_rfl) (by kernel_rfl) (by kernel_rfl)) (zL 1 5 (zK ?_)))
   exact aG (cU (bD (au (aM hS hQ (fR (rT cO))))))
  ·refine zL 1 2 (zK (zF (zS ?_)))
   refine sB 54 1 (ck 7 14) hS (fun hS=>?_) (fun hS=>?_)
   ·refine zL 1 2 (zK (zT (aN (zL 2 2 (zE ?_)))))
    refine cq (aq (zS (zL 2 2 (zK ?_))))
    exact aG (au (aM hS hQ (fR (rT ({a1 with dF:=1})))))
   ·refine zL 1 2 (zK (zF (zS ?_)))
    refine sB 57 1 (ck 7 15) hS (fun hS=>?_) (fun hS=>?_)
    ·refine zL 1 2 (zK (zT (aN (zL 2 2 (zE ?_)))))
     refine cq (aq (zS (zL 2 2 (zK ?_))))
     exact aG (au (aM hS hQ (fR (rT ({a1 with dF:=0})))))
    ·refine zL 1 2 (zK (zF ?_))
     refine aJ (cq (aq (zS (zL 2 2 (zK ?_)))))
     exact aG (au (aM hS hQ (fR (rT a1))))
def f78(a1:ah)(a2:Int):Option (ah):=(bif (decide (a2=8)) then ((f134 a1 a1.Row (IntKind.i64.wrap (a1.dS-1))).bind fun z6=>(some z6)) else (bif (decide (a2=9)) then none else (bif (decide (a2=10)) then (xo a1 a2 true) else (bif (decide (a2=11)) then (xo a1 a2 true) else (bif (decide (a2=12)) then (xo a1 a2 true) else (xo a1 a2 false))))))
theorem avB(d:Nat)(hd:4≤d)(a1:ah)(a2:Int)(r:ah)(hS:f78 a1 a2=some r):cg az bE d 78 [(.agg (av a1)),(dI a2)] []=some ((.agg (av r)),[]):=by
 refine dN hd (fun Q hQ=>?_) apb
 unfold f78 at hS
 show ZR _ Q an9 [] _
 replace hQ:FQ (arp r) Q:=hQ
 refine zS (zL 2 2 (zK (ay (zS (zL 1 1 (zK ?_))))))
 refine bF (zS ?_)
 refine sB 9 1 (ck 7 8) hS (fun hS=>?_) (fun hS=>?_)
 ·refine zL 1 2 (zK (zT (zS (zL 6 6 ?_))))
  refine ak hS (fun z6 zw hS=>zO (v:=(.agg (av z6))) (aH:= []) (some 16) 7 (.eR 134 [(tm 10),(tm 12),(tm 15)]) (dP (args:= [(.agg (av a1)),(dI a1.Row),(dI (IntKind.i64.wrap (a1.dS-1)))]) (args':= [(.agg (av a1)),(dI a1.Row),(dI (IntKind.i64.wrap (a1.dS-1)))]) (l:= [(.agg (av a1)),(dI a1.Row),(dI (IntKind.i64.wrap (a1.dS-1)))]) (refs:= []) (r:=(.agg (av z6))) (v:=(.agg (av z6))) (gN:= []) (by kernel_rfl) (by kernel_rfl) (by kernel_rfl) (aY rfl (aY rfl (aY rfl eU))) (by kernel_rfl) (Ae (d-1) (bO hd rfl) a1 a1.Row (IntKind.i64.wrap (a1.dS-1)) z6 zw) (by kernel_rfl) (by kernel_rfl) (by kernel_rfl) (by kernel_rfl)) (zL 1 8 (zK ?_)))
  exact aG (cU (bD (au (aM hS hQ (fR (rT z6))))))
 ·refine zL 1 2 (zK (zF (zS ?_)))
  refine sB 18 1 (ck 7 9) hS (fun hS=>?_) (fun hS=>?_)
  ·refine zL 1 2 (zK (zT (zS (zL 7 7 ?_))))
   cases hS
  ·refine zL 1 2 (zK (zF (ay (zS ?_))))
   refine sB 36 1 (ck 7 10) hS (fun hS=>?_) (fun hS=>?_)
   ·refine zL 1 2 (zK (zT ?_))
    exact aJ (aq (xp hd a1 a2 hQ true hS (by kernel_rfl)))
   ·refine zL 1 2 (zK (zF (zS ?_)))
    refine sB 37 1 (ck 7 11) hS (fun hS=>?_) (fun hS=>?_)
    ·refine zL 1 2 (zK (zT ?_))
     exact aJ (aq (xp hd a1 a2 hQ true hS (by kernel_rfl)))
    ·refine zL 1 2 (zK (zF (aN ?_)))
     refine sB 38 1 (ck 7 12) hS (fun hS=>?_) (fun hS=>?_)
     ·refine zL 1 2 (zK ?_)
      exact xp hd a1 a2 hQ true hS (by kernel_rfl)
     ·refine zL 1 2 (zK ?_)
      exact xp hd a1 a2 hQ false hS (by kernel_rfl)
/- farwriter/farref.arg -/
def arq(p3:Int):St:=⟨(up u0 6 (dI p3)),h0⟩
theorem MK(p3:Int):bA (arq p3) 0 c81.res=some ((dI p3),[]):=by
 kernel_rfl
def ay0(r:Int)(e:PX)(st:St):Prop:=bh c81 0 ((dI r),[]) e st
def f81(a1:List Int)(a2:Int)(a3:Int):Option (Int):=(bif (decide (a2<(a1.length:Int))) then ((idx a1 a2).bind fun z4=>(bif (decide (0≤z4)) then ((idx a1 a2).bind fun z5=>(some z5)) else (some a3))) else (some a3))
theorem avC(d:Nat)(hd:1≤d)(a1:List Int)(a2:Int)(a3:Int)(r:Int)(hS:f81 a1 a2 a3=some r):cg az bE d 81 [(dL a1),(dI a2),(dI a3)] []=some ((dI r),[]):=by
 refine dN hd (fun Q hQ=>?_) apc
 unfold f81 at hS
 show ZR _ Q aoa [] _
 replace hQ:FQ (ay0 r) Q:=hQ
 refine zS (zL 1 1 (zK (ay (zS (zL 3 3 ?_)))))
 refine sB 10 4 (.a_ .lss (tm 7) (tm 9)) hS (fun hS=>?_) (fun hS=>?_)
 ·refine zL 3 7 (ak hS (fun z4 jR hS=>zG (v:=(.cS (eI.enc z4++(eI.cells (a1.drop ((a2:Int).toNat+1)))))) (aH:= []) (some 14) 8 11 true (.fQ 3 1 (tm 12) (tm 13)) (eE eI (kk:= .i64) (xs:=a1) (j:=a2) (by kernel_rfl) (by kernel_rfl) jR rfl (by intro h;cases h)) (zL 1 9 (sH 16 10 11 true (.a_ .geq (tm 15) (ki 0)) hS (fun hS=>?_) (fun hS=>?_)))))
  ·refine zL 1 11 (zK (zT (zS (zL 2 2 ?_))))
   refine ak hS (fun z5 tV hS=>zO (v:=(.cS (eI.enc z5++(eI.cells (a1.drop ((a2:Int).toNat+1)))))) (aH:= []) (some 20) 3 (.fQ 3 1 (tm 18) (tm 19)) (eE eI (kk:= .i64) (xs:=a1) (j:=a2) (by kernel_rfl) (by kernel_rfl) tV rfl (by intro h;cases h)) (zL 2 5 (zK ?_)))
   exact aG (bD (au (aM hS hQ (fR (MK z5)))))
  ·refine zL 1 11 (zK (zF ?_))
   refine aJ (aq (zS (zL 2 2 (zK ?_))))
   exact aG (au (aM hS hQ (fR (MK a3))))
 ·refine zL 7 11 (zK (zF ?_))
  refine aJ (aq (zS (zL 2 2 (zK ?_))))
  exact aG (au (aM hS hQ (fR (MK a3))))
end
end Go.Proofs.YtobkkblijfhpoaaGreatDoor.Pm
