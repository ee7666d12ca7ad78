/- The small machine's codes of some functions. Printed by dec.py. -/
import Derived.Test.YtobkkblijfhpoaaGreatDoorMpC
import Derived.Test.YtobkkblijfhpoaaGreatDoorKrz
import Derived.Test.YtobkkblijfhpoaaGreatDoorLib1
import Derived.Test.YtobkkblijfhpoaaGreatDoorLibP
import Derived.Test.YtobkkblijfhpoaaGreatDoorProg
namespace Go.Proofs.YtobkkblijfhpoaaGreatDoor.Pm
set_option maxRecDepth 1000000
set_option maxHeartbeats 20000000
set_option linter.unusedVariables false
abbrev tm(n:Nat):Operand:= .tmp n
abbrev ki(n:Int):Operand:= .const (.int .i64 n)
abbrev po(d:Nat)(o:gP):PO:=⟨some d,o,none⟩
abbrev pm(d s:Nat):PO:=⟨some d,.jG (.tmp s),none⟩
abbrev dI(x:Int):PV:= .d (.int .i64 x)
abbrev dB(b:Bool):PV:= .d (.bool b)
abbrev pt(n:Nat):PV:= .r (.ptr n 0 0)
abbrev u0:Nat→PV:=fun _=> .un
abbrev h0:Nat→cL:=hB fun _=>0
section
variable {γ : cX} {Q : PX → St → Prop} {k : List It} {st : St} {p : List PO}
theorem zL{i:Nat}(n j:Nat)(h:ZL γ Q k (p.drop j) (Kw (fS γ ((p.drop i).take n) st)))(hj:i+n=j:=by rfl)(h1:(fS γ ((p.drop i).take n) st).isSome=true:=by kernel_rfl):ZL γ Q k (p.drop i) st:=ake hj h1 h
theorem zE{i:Nat}(h:ZK γ Q k .normal st)(h0:p.drop i= []:=by kernel_rfl):ZL γ Q k (p.drop i) st:=akf h0 h
theorem zT{c:Operand}{t e:aj}(h:ZR γ Q t k st)(hc:(cK st.s c).bool?=some true:=by kernel_rfl):ZR γ Q (.cond c t e) k st:=Tq hc h
theorem zF{c:Operand}{t e:aj}(h:ZR γ Q e k st)(hc:(cK st.s c).bool?=some false:=by kernel_rfl):ZR γ Q (.cond c t e) k st:=Ts hc h
theorem zO{i:Nat}{v:PV}{aH:eo}(d:Option Nat)(j:Nat)(op:gP)(h1:aD γ st.h (d.getD 0) (cK st.s) op=some (v,aH))(h:ZL γ Q k (p.drop j) (BC st d v aH))(hp:(p.drop i).take 1= [⟨d,op,none⟩]:=by kernel_rfl)(hj:i+1=j:=by rfl)(hg:vW st.s none=true:=by rfl):ZL γ Q k (p.drop i) st:=aaY hj hp hg h1 h
theorem fN{m:Nat}{fc:aO}{r:PV×List cj}{s:St}(h:bA s m fc.res=some r)(he:dZ fc.fin st=s:=by kernel_rfl)(hx:Kq fc.fin=false:=by kernel_rfl):bh fc m r .normal st:=XF hx ((congrArg (fun s=>bA s m fc.res) he).trans h)
theorem fR{m:Nat}{fc:aO}{r:PV×List cj}{s:St}(h:bA s m fc.res=some r)(he:dZ fc.fin st=s:=by kernel_rfl)(hx:Kq fc.fin=false:=by kernel_rfl):bh fc m r .ret st:=ko hx ((congrArg (fun s=>bA s m fc.res) he).trans h)
end
abbrev eI:dJ Int:=dR .i64
abbrev dL(x:List Int):PV:= .d (.sl x.length (eI.cells x))
abbrev dE{α:Type}(E:dJ α)(x:List α):PV:= .d (.sl x.length (E.cells x))
abbrev LP:=List PO
abbrev lf(e a:Nat):gP:= .load false e (.tmp a)
abbrev lt(e a:Nat):gP:= .load true e (.tmp a)
abbrev fd(k a:Nat):gP:= .Qa k (.tmp a)
abbrev ck(a:Nat)(n:Int):gP:= .a_ .eql (.tmp a) (.const (.int .i64 n))
abbrev c1(f a:Nat):gP:= .call f [.tmp a]
abbrev pS(e a b:Nat):PO:=⟨none,.store e (.tmp a) (.tmp b),none⟩
abbrev PQ:=PX→St→Prop
abbrev FQ(A Q:PQ):Prop:= ∀e bX,A e bX→Q e bX
section
variable {γ : cX} {Q : PX → St → Prop} {k : List It} {st : St} {p : List PO} {α : Type} {a b r : α} {c : Bool}
theorem sB{i:Nat}(d j:Nat)(op:gP)(hS:(bif c then a else b)=r)(ht:a=r→ZL γ Q k (p.drop j) (fD st d true))(hf:b=r→ZL γ Q k (p.drop j) (fD st d false))(hp:(p.drop i).take 1= [⟨some d,op,none⟩]:=by kernel_rfl)(h1:aD γ st.h d (cK st.s) op=some (.d (.bool c),[]):=by kernel_rfl)(hj:i+1=j:=by rfl):ZL γ Q k (p.drop i) st:=DW c hj hp rfl h1 (fun h=>ht (kX h hS)) fun h=>hf (kY h hS)
theorem sH{i:Nat}(d j g:Nat)(v:Bool)(op:gP)(hS:(bif c then a else b)=r)(ht:a=r→ZL γ Q k (p.drop j) (fD st d true))(hf:b=r→ZL γ Q k (p.drop j) (fD st d false))(hp:(p.drop i).take 1= [⟨some d,op,some (g,v)⟩]:=by kernel_rfl)(hg:vW st.s (some (g,v))=true:=by kernel_rfl)(h1:aD γ st.h d (cK st.s) op=some (.d (.bool c),[]):=by kernel_rfl)(hj:i+1=j:=by rfl):ZL γ Q k (p.drop i) st:=DW c hj hp hg h1 (fun h=>ht (kX h hS)) fun h=>hf (kY h hS)
theorem sR{c0:aj}(t:Nat)(hS:(bif c then a else b)=r)(ht:a=r→ZR γ Q c0 k (fD st t true))(hf:b=r→ZR γ Q c0 k (fD st t false))(h1:st.s t= .d (.bool c):=by kernel_rfl):ZR γ Q c0 k st:=Tt t c h1 (fun h=>ht (kX h hS)) fun h=>hf (kY h hS)
theorem sL{l:List PO}(t:Nat)(hS:(bif c then a else b)=r)(ht:a=r→ZL γ Q k l (fD st t true))(hf:b=r→ZL γ Q k l (fD st t false))(h1:st.s t= .d (.bool c):=by kernel_rfl):ZL γ Q k l st:=Tu t c h1 (fun h=>ht (kX h hS)) fun h=>hf (kY h hS)
theorem zG{i:Nat}{v:PV}{aH:eo}(d:Option Nat)(j g:Nat)(w:Bool)(op:gP)(h1:aD γ st.h (d.getD 0) (cK st.s) op=some (v,aH))(h:ZL γ Q k (p.drop j) (BC st d v aH))(hp:(p.drop i).take 1= [⟨d,op,some (g,w)⟩]:=by kernel_rfl)(hg:vW st.s (some (g,w))=true:=by kernel_rfl)(hj:i+1=j:=by rfl):ZL γ Q k (p.drop i) st:=aaY hj hp hg h1 h
variable {fP : List (Nat × Nat)} {acc : List (List (Nat × Bool))}
theorem D6{i:Nat}(d j:Nat)(g:Option (Nat×Bool))(op:gP)(hS:(bif c then a else b)=r)(ht:a=r→ZD γ Q fP k (acc++ [Nf st (some d) op]) (p.drop j) (fD st d true))(hf:b=r→ZD γ Q fP k (acc++ [Nf st (some d) op]) (p.drop j) (fD st d false))(hp:(p.drop i).take 1= [⟨some d,op,g⟩]:=by kernel_rfl)(hg:vW st.s g=true:=by kernel_rfl)(h1:aD γ st.h d (cK st.s) op=some (.d (.bool c),[]):=by kernel_rfl)(hj:i+1=j:=by rfl):ZD γ Q fP k acc (p.drop i) st:=aaX c rfl rfl hj hp hg h1 (fun h=>ht (kX h hS)) fun h=>hf (kY h hS)
theorem dx{i:Nat}(n j:Nat)(h:ZD γ Q fP k (acc++XE (fS γ ((p.drop i).take n) st)) (p.drop j) (Kw (fS γ ((p.drop i).take n) st)))(hj:i+n=j:=by rfl)(h1:(fS γ ((p.drop i).take n) st).isSome=true:=by kernel_rfl):ZD γ Q fP k acc (p.drop i) st:=akc hj h1 rfl rfl h
theorem iC{i:Nat}(h:ZK γ Q k .normal st)(h0:p.drop i= []:=by kernel_rfl)(ha:(fP.all fun x=>apart (acc.getD x.1 []) (acc.getD x.2 []))=true:=by kernel_rfl):ZD γ Q fP k acc (p.drop i) st:=akd h0 ha h
theorem eT{i:Nat}{v:PV}{aH:eo}(d:Option Nat)(j:Nat)(g:Option (Nat×Bool))(op:gP)(h1:aD γ st.h (d.getD 0) (cK st.s) op=some (v,aH))(h:ZD γ Q fP k (acc++ [Nf st d op]) (p.drop j) (BC st d v aH))(hp:(p.drop i).take 1= [⟨d,op,g⟩]:=by kernel_rfl)(hg:vW st.s g=true:=by kernel_rfl)(hj:i+1=j:=by rfl):ZD γ Q fP k acc (p.drop i) st:=awq rfl rfl hj hp hg h1 h
theorem iW{σ ρ:Type}{H:σ→St→Prop}{X:ρ→PX→St→Prop}{z:ρ}{r:σ⊕ρ}{e:PX}(hS:some (Sum.inr z)=some r)(hQ: ∀e bX,bS H X r e bX→Q e bX)(hne:e≠ .normal:=by intro h;cases h)(h:X z e st:=by show _=_∧_=_;exact ⟨rfl,rfl⟩):Q e st:=aM hS hQ (Ax hne h)
theorem xU{σ ρ:Type}{H:σ→St→Prop}{X:ρ→PX→St→Prop}{z:ρ}{r:σ⊕ρ}{e:PX}(hS:some (Sum.inr z)=some r)(hQ: ∀e bX,bS H X r e bX→Q e bX)(hne:e≠ .normal:=by intro h;cases h)(h:X z e st:=by show _=_∧_=_;exact ⟨rfl,by kernel_rfl⟩):Q e st:=aM hS hQ (Ax hne h)
theorem gC{σ ρ:Type}{H:σ→St→Prop}{X:ρ→PX→St→Prop}{z:σ}{r:σ⊕ρ}(hS:some (Sum.inl z)=some r)(hQ: ∀e bX,bS H X r e bX→Q e bX)(h:H z st:=by show aA _ _ _ _=_;kernel_rfl):Q .normal st:=aM hS hQ (aaS h)
variable {H : Nat → cL} {ρ : Nat → PV} {d : Nat}
theorem aW{ρ:Operand→PV}{f:Nat}{xs:List Operand}{l:List PV}{r:PV}(hc:γ f l []=some (r,[]))(hl:gH H (xs.map ρ)=some l:=by kernel_rfl)(hf:((bQ (xs.map ρ)).isEmpty || gq r)=true:=by kernel_rfl)(hr:(distinct ((owns r).map (·.1))&&(owns r).all (fun x=>decide (x.1<8)))=true:=by kernel_rfl):aD γ H d ρ (.call f xs)=some (Be H d r,(owns r).map fun x=>nw H (bf d x.1) x.2):=OS hl hc hf hr
theorem mg{ρ:Operand→PV}{f:Nat}{xs:List Operand}{l:List PV}(ids:List Nat){bt b_:List cj}{r:PV}(hc:γ f l bt=some (r,b_))(hi:gB H ((xs.map ρ).map tG)=ids:=by kernel_rfl)(hb:(gQ H ids).map (List.map (pR ids H))=some bt:=by kernel_rfl)(hl:xO ids H ((xs.map ρ).map tG)=l:=by kernel_rfl)
  (hr:(decide (b_.length=ids.length)&&decide (ids.length≤8)&&distinct ((cY r b_).map (·.1))&&(cY r b_).all (fun x=>decide (x.1<8)&& !ids.any (Nat.beq (bf d x.1))))=true:=by kernel_rfl):
  aD γ H d ρ (.er f xs)=some (tF false ids H d r,lB false H ids d ids b_++(cY r b_).map fun x=>nw H (bf d x.1) x.2):=KD hi hb hl hc hr
theorem pH{ρ:Operand→PV}{f:Nat}{xs:List Operand}{l:List PV}(ids:List Nat)(bs:List cj){bt b_:List cj}{r:PV}(hc:γ f l bt=some (r,b_))(hs:iA H ids b_=true)(hi:gB H ((xs.map ρ).map tG)=ids:=by kernel_rfl)(hb:gQ H ids=some bs:=by kernel_rfl)(hl:xO ids H ((xs.map ρ).map tG)=l:=by kernel_rfl)(ht:bs.map (pR ids H)=bt:=by kernel_rfl)
  (CJ:xG ids b_=true:=by kernel_rfl) (hr:(decide (ids.length≤8)&&distinct ((cY r b_).map (·.1))&&(cY r b_).all (fun x=>decide (x.1<8)&& !ids.any (Nat.beq (bf d x.1))))=true:=by kernel_rfl):
  aD γ H d ρ (.er f xs)=some (tF true ids H d r,lB true H ids d ids b_++(cY r b_).map fun x=>nw H (bf d x.1) x.2):=HV hi hb hl ht hc CJ hs hr
theorem lk{p q:PV}{ps qs:List PV}(h2:gH H ps=some qs)(h1:gp H p=some q:=by kernel_rfl):gH H (p::ps)=some (q::qs):=lZ h1 h2
end
abbrev S8:=List UInt8
section
variable {γ : cX} {Q : PX → St → Prop} {k : List It} {st : St} {p : List PO} {b : aj}
theorem zS(h:ZL γ Q (.seq b::k) (p.drop 0) st):ZR γ Q (.seq (.ai p) b) k st:=ay (aN h)
theorem zK{i:Nat}(h:ZR γ Q b k st)(h0:p.drop i= []:=by kernel_rfl):ZL γ Q (.seq b::k) (p.drop i) st:=zE (aq h) h0
end
abbrev cR:List Nat:= [8,9,10,100011,100015,100029,30,100032,100037,38,43,51,100059,60,61,65,100066,68,70,72,74,76,100077,100078,100079,100080,100082,88,103,105,108,100116,118,123,124,100130,100132,100133,100134,100136,100137,100138,100139,100142,100144,100145,156,157,100160,100161,100163,165,166,100167,170,100179,100180,100181,100183,100186,100191,203,204,205,206,208,210,213,217,218,200219,219,222,100230,238,239,240,241,242,243,244,246,247,248,249,250,255,268,269,270,272,273,275,277,279,281,282,283,284,287,288,289,290,292,301,303,305,306,308,309,311,314,315,316,318,337,100013,300273]
set_option linter.unusedSimpArgs false
structure gO where
 Name:S8
 Value:S8
 aA0:Bool
 Set:Bool
structure mo where
 fO:Nat→Int
 eB:Nat→Int
structure bq where
 Flags:Int
 cz:Int
 b9:Int
structure aa where
 cW:Int
 bM:bq
structure aV where
 bV:Int
 cC:Int
 Cells:List aa
structure cH where
 Bits:Nat→Int
structure AK where
 Row:Int
 dS:Int
 bM:bq
 Origin:Bool
 bY:Int×Int
 dF:Int
structure bk where
 Cells:List aa
structure ah where
 aT:aV
 Row:Int
 dS:Int
 eL:Bool
 jo:Int
 dy:Int
 bM:bq
 gD:Int
 gU:cH
 bY:Int×Int
 dF:Int
 aR:AK
 bT:aV
 iF:S8
 cD:List bk
structure bW where
 Mode:Int
 G9:Int
 Bp:Int
 oZ:S8
 Over:Bool
structure bH where
 State:Int
 Mark:Int
 Inter:S8
 Args:S8
 Text:S8
structure dm where
 Us:Nat→UInt8
 qU:Nat→UInt8
 fO:Nat→Int
 eB:Nat→Int
structure bG where
 Names:List S8
 At:Int
structure di where
 jd:Nat→UInt8
 tS:Nat→UInt8
structure eY where
 Bits:Nat→Int
structure dw where
 oZ:S8
 Quote:Bool
structure aL where
 gj:bW
 Cr:Bool
 Part:S8
 Psr:bH
 af:ah
 Neg:dm
 cy:bG
 Vars:List gO
 Keys:di
 Mask:eY
 jE:dw
 Ie:Bool
structure aP where
 Kind:Int
 Code:Int
 Mark:Int
 Inter:S8
 Args:List Int
 Text:S8
structure ald where
 Name:Int
 cW:Int
 Ut:Int
structure Q0 where
 abM:Int
 dS:Int
 Row:Int
 Ut:Int
 Up:Bool
structure jF where
 Kind:Int
 Data:S8
 Key:ald
 tT:Q0
 Runes:List Int
 bV:Int
 cC:Int
 Us:Bool
 Bp:Int
 On:Bool
structure aF where
 Client:aL
 sent:S8
structure cV where
 Kind:Int
 G9:Int
 Bp:Int
 Data:S8
structure fj where
 gj:bW
 buf:S8
 data:S8
 l:List cV
structure aB where
 af:ah
 sent:S8
def QG:dJ bq:=⟨3,fun x=> [.int .i64 x.Flags,.int .i64 x.cz,.int .i64 x.b9],fun _=>rfl⟩
def ag:dJ aa:=⟨4,fun x=> [.int .i64 x.cW,.int .i64 x.bM.Flags,.int .i64 x.bM.cz,.int .i64 x.bM.b9],fun _=>rfl⟩
def bJ:dJ bk:=⟨1,fun x=> [.sl x.Cells.length (ag.cells x.Cells)],fun _=>rfl⟩
def ep:dJ gO:=⟨4,fun x=> [.str x.Name,.str x.Value,.bool x.aA0,.bool x.Set],fun _=>rfl⟩
def bN:dJ aP:=⟨6,fun x=> [.int .i64 x.Kind,.int .i64 x.Code,.int .i64 x.Mark,.str x.Inter,.sl x.Args.length (eI.cells x.Args),.str x.Text],fun _=>rfl⟩
def ku:dJ (Int×Int):=⟨2,fun x=> [.int .i64 x.1,.int .i64 x.2],fun _=>rfl⟩
def eV:dJ cV:=⟨4,fun x=> [.int .i64 x.Kind,.int .i64 x.G9,.int .i64 x.Bp,.str x.Data],fun _=>rfl⟩
def Ig:dJ aF:=⟨614,fun x=>(.int .i64 x.Client.gj.Mode::(.int .i64 x.Client.gj.G9::(.int .i64 x.Client.gj.Bp::(.str x.Client.gj.oZ::(.bool x.Client.gj.Over::(.bool x.Client.Cr::(.str x.Client.Part::(.int .i64 x.Client.Psr.State::(.int .i64 x.Client.Psr.Mark::(.str x.Client.Psr.Inter::(.str x.Client.Psr.Args::(.str x.Client.Psr.Text::(.int .i64 x.Client.af.aT.bV::(.int .i64 x.Client.af.aT.cC::(.sl x.Client.af.aT.Cells.length (ag.cells x.Client.af.aT.Cells)::(.int .i64 x.Client.af.Row::(.int .i64 x.Client.af.dS::(.bool x.Client.af.eL::(.int .i64 x.Client.af.jo::(.int .i64 x.Client.af.dy::(.int .i64 x.Client.af.bM.Flags::(.int .i64 x.Client.af.bM.cz::(.int .i64 x.Client.af.bM.b9::(.int .i64 x.Client.af.gD::((dR .u64).nj 4 x.Client.af.gU.Bits++(.int .i64 x.Client.af.bY.1::(.int .i64 x.Client.af.bY.2::(.int .i64 x.Client.af.dF::(.int .i64 x.Client.af.aR.Row::(.int .i64 x.Client.af.aR.dS::(.int .i64 x.Client.af.aR.bM.Flags::(.int .i64 x.Client.af.aR.bM.cz::(.int .i64 x.Client.af.aR.bM.b9::(.bool x.Client.af.aR.Origin::(.int .i64 x.Client.af.aR.bY.1::(.int .i64 x.Client.af.aR.bY.2::(.int .i64 x.Client.af.aR.dF::(.int .i64 x.Client.af.bT.bV::(.int .i64 x.Client.af.bT.cC::(.sl x.Client.af.bT.Cells.length (ag.cells x.Client.af.bT.Cells)::(.str x.Client.af.iF::(.sl x.Client.af.cD.length (bJ.cells x.Client.af.cD)::(dM.nj 256 x.Client.Neg.Us++(dM.nj 256 x.Client.Neg.qU++((dR .u64).nj 4 x.Client.Neg.fO++((dR .u64).nj 4 x.Client.Neg.eB++(.sl x.Client.cy.Names.length (eu.cells x.Client.cy.Names)::(.int .i64 x.Client.cy.At::(.sl x.Client.Vars.length (ep.cells x.Client.Vars)::(dM.nj 19 x.Client.Keys.jd++(dM.nj 19 x.Client.Keys.tS++((dR .u64).nj 4 x.Client.Mask.Bits++(.str x.Client.jE.oZ::(.bool x.Client.jE.Quote::(.bool x.Client.Ie::(.str x.sent:: [])))))))))))))))))))))))))))))))))))))))))))))))))))))))),fun x=>by simp only [List.length_append,List.length_cons,List.length_nil,dJ.OQ];rfl⟩
def BO:dJ aB:=⟨34,fun x=>(.int .i64 x.af.aT.bV::(.int .i64 x.af.aT.cC::(.un::(.int .i64 x.af.Row::(.int .i64 x.af.dS::(.bool x.af.eL::(.int .i64 x.af.jo::(.int .i64 x.af.dy::(.int .i64 x.af.bM.Flags::(.int .i64 x.af.bM.cz::(.int .i64 x.af.bM.b9::(.int .i64 x.af.gD::((dR .u64).nj 4 x.af.gU.Bits++(.int .i64 x.af.bY.1::(.int .i64 x.af.bY.2::(.int .i64 x.af.dF::(.int .i64 x.af.aR.Row::(.int .i64 x.af.aR.dS::(.int .i64 x.af.aR.bM.Flags::(.int .i64 x.af.aR.bM.cz::(.int .i64 x.af.aR.bM.b9::(.bool x.af.aR.Origin::(.int .i64 x.af.aR.bY.1::(.int .i64 x.af.aR.bY.2::(.int .i64 x.af.aR.dF::(.int .i64 x.af.bT.bV::(.int .i64 x.af.bT.cC::(.un::(.str x.af.iF::(.un::(.str x.sent:: []))))))))))))))))))))))))))))))),fun x=>by simp only [List.length_append,List.length_cons,List.length_nil,dJ.OQ];rfl⟩
def gK(x:ah)(c3 c2 c1:PV):List PV:=((dI x.aT.bV)::((dI x.aT.cC)::(c3::((dI x.Row)::((dI x.dS)::((dB x.eL)::((dI x.jo)::((dI x.dy)::((dI x.bM.Flags)::((dI x.bM.cz)::((dI x.bM.b9)::((dI x.gD)::(((dR .u64).row 4 x.gU.Bits)++((dI x.bY.1)::((dI x.bY.2)::((dI x.dF)::((dI x.aR.Row)::((dI x.aR.dS)::((dI x.aR.bM.Flags)::((dI x.aR.bM.cz)::((dI x.aR.bM.b9)::((dB x.aR.Origin)::((dI x.aR.bY.1)::((dI x.aR.bY.2)::((dI x.aR.dF)::((dI x.bT.bV)::((dI x.bT.cC)::(c2::((.d (.str x.iF))::(c1:: []))))))))))))))))))))))))))))))
def sO(x:aL)(c5 c4 c3 c2 c1:PV):List PV:=((dI x.gj.Mode)::((dI x.gj.G9)::((dI x.gj.Bp)::((.d (.str x.gj.oZ))::((dB x.gj.Over)::((dB x.Cr)::((.d (.str x.Part))::((dI x.Psr.State)::((dI x.Psr.Mark)::((.d (.str x.Psr.Inter))::((.d (.str x.Psr.Args))::((.d (.str x.Psr.Text))::((dI x.af.aT.bV)::((dI x.af.aT.cC)::(c5::((dI x.af.Row)::((dI x.af.dS)::((dB x.af.eL)::((dI x.af.jo)::((dI x.af.dy)::((dI x.af.bM.Flags)::((dI x.af.bM.cz)::((dI x.af.bM.b9)::((dI x.af.gD)::(((dR .u64).row 4 x.af.gU.Bits)++((dI x.af.bY.1)::((dI x.af.bY.2)::((dI x.af.dF)::((dI x.af.aR.Row)::((dI x.af.aR.dS)::((dI x.af.aR.bM.Flags)::((dI x.af.aR.bM.cz)::((dI x.af.aR.bM.b9)::((dB x.af.aR.Origin)::((dI x.af.aR.bY.1)::((dI x.af.aR.bY.2)::((dI x.af.aR.dF)::((dI x.af.bT.bV)::((dI x.af.bT.cC)::(c4::((.d (.str x.af.iF))::(c3::((dM.row 256 x.Neg.Us)++((dM.row 256 x.Neg.qU)++(((dR .u64).row 4 x.Neg.fO)++(((dR .u64).row 4 x.Neg.eB)++(c2::((dI x.cy.At)::(c1::((dM.row 19 x.Keys.jd)++((dM.row 19 x.Keys.tS)++(((dR .u64).row 4 x.Mask.Bits)++((.d (.str x.jE.oZ))::((dB x.jE.Quote)::((dB x.Ie):: [])))))))))))))))))))))))))))))))))))))))))))))))))))))))
def ei(x:fj)(c3 c2 c1:PV):List PV:=((dI x.gj.Mode)::((dI x.gj.G9)::((dI x.gj.Bp)::((.d (.str x.gj.oZ))::((dB x.gj.Over)::(c3::(c2::(c1:: []))))))))
def lS(x:aB)(c3 c2 c1:PV):List PV:=((dI x.af.aT.bV)::((dI x.af.aT.cC)::(c3::((dI x.af.Row)::((dI x.af.dS)::((dB x.af.eL)::((dI x.af.jo)::((dI x.af.dy)::((dI x.af.bM.Flags)::((dI x.af.bM.cz)::((dI x.af.bM.b9)::((dI x.af.gD)::(((dR .u64).row 4 x.af.gU.Bits)++((dI x.af.bY.1)::((dI x.af.bY.2)::((dI x.af.dF)::((dI x.af.aR.Row)::((dI x.af.aR.dS)::((dI x.af.aR.bM.Flags)::((dI x.af.aR.bM.cz)::((dI x.af.aR.bM.b9)::((dB x.af.aR.Origin)::((dI x.af.aR.bY.1)::((dI x.af.aR.bY.2)::((dI x.af.aR.dF)::((dI x.af.bT.bV)::((dI x.af.bT.cC)::(c2::((.d (.str x.af.iF))::(c1::((.d (.str x.sent)):: [])))))))))))))))))))))))))))))))
def sP(x:aF)(c5 c4 c3 c2 c1:PV):List PV:=((dI x.Client.gj.Mode)::((dI x.Client.gj.G9)::((dI x.Client.gj.Bp)::((.d (.str x.Client.gj.oZ))::((dB x.Client.gj.Over)::((dB x.Client.Cr)::((.d (.str x.Client.Part))::((dI x.Client.Psr.State)::((dI x.Client.Psr.Mark)::((.d (.str x.Client.Psr.Inter))::((.d (.str x.Client.Psr.Args))::((.d (.str x.Client.Psr.Text))::((dI x.Client.af.aT.bV)::((dI x.Client.af.aT.cC)::(c5::((dI x.Client.af.Row)::((dI x.Client.af.dS)::((dB x.Client.af.eL)::((dI x.Client.af.jo)::((dI x.Client.af.dy)::((dI x.Client.af.bM.Flags)::((dI x.Client.af.bM.cz)::((dI x.Client.af.bM.b9)::((dI x.Client.af.gD)::(((dR .u64).row 4 x.Client.af.gU.Bits)++((dI x.Client.af.bY.1)::((dI x.Client.af.bY.2)::((dI x.Client.af.dF)::((dI x.Client.af.aR.Row)::((dI x.Client.af.aR.dS)::((dI x.Client.af.aR.bM.Flags)::((dI x.Client.af.aR.bM.cz)::((dI x.Client.af.aR.bM.b9)::((dB x.Client.af.aR.Origin)::((dI x.Client.af.aR.bY.1)::((dI x.Client.af.aR.bY.2)::((dI x.Client.af.aR.dF)::((dI x.Client.af.bT.bV)::((dI x.Client.af.bT.cC)::(c4::((.d (.str x.Client.af.iF))::(c3::((dM.row 256 x.Client.Neg.Us)++((dM.row 256 x.Client.Neg.qU)++(((dR .u64).row 4 x.Client.Neg.fO)++(((dR .u64).row 4 x.Client.Neg.eB)++(c2::((dI x.Client.cy.At)::(c1::((dM.row 19 x.Client.Keys.jd)++((dM.row 19 x.Client.Keys.tS)++(((dR .u64).row 4 x.Client.Mask.Bits)++((.d (.str x.Client.jE.oZ))::((dB x.Client.jE.Quote)::((dB x.Client.Ie)::((.d (.str x.sent)):: []))))))))))))))))))))))))))))))))))))))))))))))))))))))))
def Yq(x:jF)(c1:PV):List PV:=((dI x.Kind)::((.d (.str x.Data))::((dI x.Key.Name)::((dI x.Key.cW)::((dI x.Key.Ut)::((dI x.tT.abM)::((dI x.tT.dS)::((dI x.tT.Row)::((dI x.tT.Ut)::((dB x.tT.Up)::(c1::((dI x.bV)::((dI x.cC)::((dB x.Us)::((dI x.Bp)::((dB x.On):: []))))))))))))))))
def ale(x:aP)(c1:PV):List PV:=((dI x.Kind)::((dI x.Code)::((dI x.Mark)::((.d (.str x.Inter))::(c1::((.d (.str x.Text)):: []))))))
abbrev Uu(x:ah)(i0 i1 i2:Nat):cj:= .box (gK x (.r (.aI i0 0 0 x.aT.Cells.length)) (.r (.aI i1 0 0 x.bT.Cells.length)) (.r (.aI i2 0 0 x.cD.length)))
abbrev bP(x:ah):cj:= .own 100 4 (ag.cells x.aT.Cells)
abbrev bU(x:ah):cj:= .own 100 4 (ag.cells x.bT.Cells)
abbrev cA(x:ah):cj:= .own 91 1 (bJ.cells x.cD)
abbrev gV(x:ah):PV:= .d (.sl x.aT.Cells.length (ag.cells x.aT.Cells))
abbrev EP(x:ah):PV:= .r (.own 0 100 4 x.aT.Cells.length (ag.cells x.aT.Cells))
abbrev iR(x:ah):PV:= .d (.sl x.bT.Cells.length (ag.cells x.bT.Cells))
abbrev ER(x:ah):PV:= .r (.own 1 100 4 x.bT.Cells.length (ag.cells x.bT.Cells))
abbrev fC(x:ah):PV:= .d (.sl x.cD.length (bJ.cells x.cD))
abbrev Q1(x:ah):PV:= .r (.own 2 91 1 x.cD.length (bJ.cells x.cD))
abbrev av(x:ah):List PV:=gK x (gV x) (iR x) (fC x)
abbrev iT(x:ah):List PV:=gK x (EP x) (ER x) (Q1 x)
abbrev cM(x:ah)(i0 ji0 i1 ji1 i2 ji2:Nat):List PV:=gK x (.r (.aI i0 ji0 0 x.aT.Cells.length)) (.r (.aI i1 ji1 0 x.bT.Cells.length)) (.r (.aI i2 ji2 0 x.cD.length))
abbrev Ih(h:Nat→cL)(x:ah)(i:Nat)(i0 i1 i2:Nat):Nat→cL:=up (up (up (up h i2 ⟨0,some (cA x)⟩) i1 ⟨0,some (bU x)⟩) i0 ⟨0,some (bP x)⟩) i ⟨0,some (Uu x i0 i1 i2)⟩
abbrev od(x:aL):PV:=(.agg ((dI x.gj.Mode)::((dI x.gj.G9)::((dI x.gj.Bp)::((.d (.str x.gj.oZ))::((dB x.gj.Over)::((dB x.Cr)::((.d (.str x.Part))::((dI x.Psr.State)::((dI x.Psr.Mark)::((.d (.str x.Psr.Inter))::((.d (.str x.Psr.Args))::((.d (.str x.Psr.Text))::((dI x.af.aT.bV)::((dI x.af.aT.cC)::((gV x.af)::((dI x.af.Row)::((dI x.af.dS)::((dB x.af.eL)::((dI x.af.jo)::((dI x.af.dy)::((dI x.af.bM.Flags)::((dI x.af.bM.cz)::((dI x.af.bM.b9)::((dI x.af.gD)::(((dR .u64).row 4 x.af.gU.Bits)++((dI x.af.bY.1)::((dI x.af.bY.2)::((dI x.af.dF)::((dI x.af.aR.Row)::((dI x.af.aR.dS)::((dI x.af.aR.bM.Flags)::((dI x.af.aR.bM.cz)::((dI x.af.aR.bM.b9)::((dB x.af.aR.Origin)::((dI x.af.aR.bY.1)::((dI x.af.aR.bY.2)::((dI x.af.aR.dF)::((dI x.af.bT.bV)::((dI x.af.bT.cC)::((iR x.af)::((.d (.str x.af.iF))::((fC x.af)::((dM.row 256 x.Neg.Us)++((dM.row 256 x.Neg.qU)++(((dR .u64).row 4 x.Neg.fO)++(((dR .u64).row 4 x.Neg.eB)++((dE eu x.cy.Names)::((dI x.cy.At)::((dE ep x.Vars)::((dM.row 19 x.Keys.jd)++((dM.row 19 x.Keys.tS)++(((dR .u64).row 4 x.Mask.Bits)++((.d (.str x.jE.oZ))::((dB x.jE.Quote)::((dB x.Ie):: []))))))))))))))))))))))))))))))))))))))))))))))))))))))))
abbrev jq:cL:=⟨0,some (.box (gK (ah.mk (aV.mk 0 0 ([])) 0 0 false 0 0 (bq.mk 0 0 0) 0 (cH.mk (fun _=>0)) (0,0) 0 (AK.mk 0 0 (bq.mk 0 0 0) false (0,0) 0) (aV.mk 0 0 ([])) ([]) ([])) (.d (.sl ([]:List aa).length (ag.cells ([])))) (.d (.sl ([]:List aa).length (ag.cells ([])))) (.d (.sl ([]:List bk).length (bJ.cells ([]))))))⟩
abbrev qV(x:aF):cj:=(.box (sP x (gV x.Client.af) (iR x.Client.af) (fC x.Client.af) (dE eu x.Client.cy.Names) (dE ep x.Client.Vars)))
abbrev q4_(x:ah):PV:=(.agg ((dI x.aT.bV)::((dI x.aT.cC)::((gV x)::((dI x.Row)::((dI 0)::((dB x.eL)::((dI x.jo)::((dI x.dy)::((dI x.bM.Flags)::((dI x.bM.cz)::((dI x.bM.b9)::((dI x.gD)::(((dR .u64).row 4 x.gU.Bits)++((dI x.bY.1)::((dI x.bY.2)::((dI x.dF)::((dI x.aR.Row)::((dI x.aR.dS)::((dI x.aR.bM.Flags)::((dI x.aR.bM.cz)::((dI x.aR.bM.b9)::((dB x.aR.Origin)::((dI x.aR.bY.1)::((dI x.aR.bY.2)::((dI x.aR.dF)::((dI x.bT.bV)::((dI x.bT.cC)::((iR x)::((.d (.str x.iF))::((fC x):: [])))))))))))))))))))))))))))))))
abbrev pN:cL:=⟨0,some (.box (sO (aL.mk (bW.mk 0 0 0 ([]) false) false ([]) (bH.mk 0 0 ([]) ([]) ([])) (ah.mk (aV.mk 0 0 ([])) 0 0 false 0 0 (bq.mk 0 0 0) 0 (cH.mk (fun _=>0)) (0,0) 0 (AK.mk 0 0 (bq.mk 0 0 0) false (0,0) 0) (aV.mk 0 0 ([])) ([]) ([])) (dm.mk (fun _=>0) (fun _=>0) (fun _=>0) (fun _=>0)) (bG.mk ([]) 0) ([]) (di.mk (fun _=>0) (fun _=>0)) (eY.mk (fun _=>0)) (dw.mk ([]) false) false) (.d (.sl ([]:List aa).length (ag.cells ([])))) (.d (.sl ([]:List aa).length (ag.cells ([])))) (.d (.sl ([]:List bk).length (bJ.cells ([])))) (.d (.sl ([]:List S8).length (eu.cells ([])))) (.d (.sl ([]:List gO).length (ep.cells ([]))))))⟩
abbrev mV(x:aB):Nat→cL:=(up (up (up (up h0 3 ⟨1,some (cA x.af)⟩) 2 ⟨1,some (bU x.af)⟩) 1 ⟨1,some (bP x.af)⟩) 0 ⟨0,some (.box (lS x (.r (.aI 1 1 0 x.af.aT.Cells.length)) (.r (.aI 2 1 0 x.af.bT.Cells.length)) (.r (.aI 3 1 0 x.af.cD.length))))⟩)
abbrev js(x:aB):cj:=(.box (lS x (.r (.aI 1 0 0 x.af.aT.Cells.length)) (.r (.aI 2 0 0 x.af.bT.Cells.length)) (.r (.aI 3 0 0 x.af.cD.length))))
abbrev q8_:List (Nat×Value):= [(3,(.int .i64 0)),(1,(.string ⟨#[]⟩)),(2,(.bool .false)),(1,(.string ⟨#[]⟩)),(2,(.int .i64 0)),(3,(.string ⟨#[]⟩)),(2,(.int .i64 0)),(1,(.slice .none 0 0)),(2,(.int .i64 0)),(1,(.bool .false)),(6,(.int .i64 0)),(4,(.int .u64 0)),(8,(.int .i64 0)),(1,(.bool .false)),(5,(.int .i64 0)),(1,(.slice .none 0 0)),(1,(.string ⟨#[]⟩)),(1,(.slice .none 0 0)),(512,(.int .u8 0)),(8,(.int .u64 0)),(1,(.slice .none 0 0)),(1,(.int .i64 0)),(1,(.slice .none 0 0)),(38,(.int .u8 0)),(4,(.int .u64 0)),(1,(.string ⟨#[]⟩)),(2,(.bool .false))]
abbrev Bq(x:aL):cL:=⟨0,some (.box (sO x (gV x.af) (iR x.af) (fC x.af) (dE eu x.cy.Names) (dE ep x.Vars)))⟩
abbrev iZ(x:aV):List PV:=((dI x.bV)::((dI x.cC)::((dE ag x.Cells):: [])))
abbrev qW(x:bH):List PV:=((dI x.State)::((dI x.Mark)::((.d (.str x.Inter))::((.d (.str x.Args))::((.d (.str x.Text)):: [])))))
abbrev alf(x:ah):PV:=(.agg ((dI x.aT.bV)::((dI x.aT.cC)::((EP x)::((dI x.Row)::((dI x.dS)::((dB x.eL)::((dI x.jo)::((dI x.dy)::((dI x.bM.Flags)::((dI x.bM.cz)::((dI x.bM.b9)::((dI x.gD)::(((dR .u64).row 4 x.gU.Bits)++((dI x.bY.1)::((dI x.bY.2)::((dI x.dF)::((dI x.aR.Row)::((dI x.aR.dS)::((dI x.aR.bM.Flags)::((dI x.aR.bM.cz)::((dI x.aR.bM.b9)::((dB x.aR.Origin)::((dI x.aR.bY.1)::((dI x.aR.bY.2)::((dI x.aR.dF)::((dI x.bT.bV)::((dI x.bT.cC)::((ER x)::((.d (.str x.iF))::(.nil:: [])))))))))))))))))))))))))))))))
abbrev jW(x:aB):Nat→cL:=(up (up (up (up (up h0 226 ⟨0,some (cA x.af)⟩) 225 ⟨0,some (bU x.af)⟩) 224 ⟨0,some (bP x.af)⟩) 240 ⟨0,some (.box (lS x (.r (.aI 224 0 0 x.af.aT.Cells.length)) (.r (.aI 225 0 0 x.af.bT.Cells.length)) (.r (.aI 226 0 0 x.af.cD.length))))⟩) 40 jq)
abbrev lT(x:bq):PV:=(.agg ((dI x.Flags)::((dI x.cz)::((dI x.b9):: []))))
abbrev lU(x:aB):List PV:=((dI x.af.aT.bV)::((dI x.af.aT.cC)::((.r (.aI 1 1 0 x.af.aT.Cells.length))::((dI x.af.Row)::((dI x.af.dS)::((dB x.af.eL)::((dI x.af.jo)::((dI x.af.dy)::((dI x.af.bM.Flags)::((dI x.af.bM.cz)::((dI x.af.bM.b9)::((dI x.af.gD)::(((dR .u64).row 4 x.af.gU.Bits)++((dI x.af.bY.1)::((dI x.af.bY.2)::((dI x.af.dF)::((dI x.af.aR.Row)::((dI x.af.aR.dS)::((dI x.af.aR.bM.Flags)::((dI x.af.aR.bM.cz)::((dI x.af.aR.bM.b9)::((dB x.af.aR.Origin)::((dI x.af.aR.bY.1)::((dI x.af.aR.bY.2)::((dI x.af.aR.dF)::((dI x.af.bT.bV)::((dI x.af.bT.cC)::((.r (.aI 2 1 0 x.af.bT.Cells.length))::((.d (.str x.af.iF))::((.r (.aI 3 1 0 x.af.cD.length))::((.d (.str x.sent)):: [])))))))))))))))))))))))))))))))
abbrev uO(x:bq):cL:=⟨0,some (.box ((dI x.Flags)::((dI x.cz)::((dI x.b9):: []))))⟩
abbrev alg:Nat→cL:=(up h0 352 ⟨0,some (.own 39 2 (ku.cells ([(0,0),(32,1),(127,0),(160,1),(768,0),(880,1),(4352,2),(4448,1),(8203,0),(8208,1),(11904,2),(12351,1),(12353,2),(19904,1),(19968,2),(42192,1),(44032,2),(55204,1),(63744,2),(64256,1),(65024,0),(65040,1),(65072,2),(65136,1),(65280,2),(65377,1),(65504,2),(65511,1),(127744,2),(128592,1),(129280,2),(129536,1),(131072,2),(262142,1)])))⟩)
abbrev lF:PV:=(.r (.aI 352 0 0 (([(0,0),(32,1),(127,0),(160,1),(768,0),(880,1),(4352,2),(4448,1),(8203,0),(8208,1),(11904,2),(12351,1),(12353,2),(19904,1),(19968,2),(42192,1),(44032,2),(55204,1),(63744,2),(64256,1),(65024,0),(65040,1),(65072,2),(65136,1),(65280,2),(65377,1),(65504,2),(65511,1),(127744,2),(128592,1),(129280,2),(129536,1),(131072,2),(262142,1)]:List (Int×Int)).length)))
abbrev ES(x:bW):List PV:=((dI x.Mode)::((dI x.G9)::((dI x.Bp)::((.d (.str x.oZ))::((dB x.Over):: [])))))
abbrev O_(x:aP):PV:=(.agg ((dI x.Kind)::((dI x.Code)::((dI x.Mark)::((.d (.str x.Inter))::((dL x.Args)::((.d (.str x.Text)):: [])))))))
abbrev BP(x:ah):List PV:=((dI x.aT.bV)::((dI x.aT.cC)::((gV x):: [])))
abbrev Pa:cL:=⟨0,some (.box ((dI 0)::((dI 0)::((.d (.str ([])))::((.d (.str ([])))::((.d (.str ([]))):: []))))))⟩
abbrev alh:ah:=(ah.mk (aV.mk 0 0 ([])) 0 0 false 0 0 (bq.mk 0 0 0) 0 (cH.mk (fun _=>0)) (0,0) 0 (AK.mk 0 0 (bq.mk 0 0 0) false (0,0) 0) (aV.mk 0 0 ([])) ([]) ([]))
abbrev BQ(x:dm):PV:=(.agg ((dM.row 256 x.Us)++((dM.row 256 x.qU)++ [])))
abbrev Ii(x:aP):Nat→cL:=(up (up h0 40 jq) 32 ⟨0,some (.box (ale x (dL x.Args)))⟩)
abbrev Pb:cL:=⟨0,some (.box ((dI 0)::((dI 0)::((dI 0)::((.d (.str ([])))::((dB false):: []))))))⟩
abbrev kI(x:ah):cL:=⟨0,some (.box (gK x (.r (.aI 72 0 0 x.aT.Cells.length)) (.r (.aI 96 0 0 x.bT.Cells.length)) (fC x)))⟩
abbrev awE(x:jF):PV:=(.agg ((dI x.Kind)::((.d (.str x.Data))::((dI x.Key.Name)::((dI x.Key.cW)::((dI x.Key.Ut)::((dI x.tT.abM)::((dI x.tT.dS)::((dI x.tT.Row)::((dI x.tT.Ut)::((dB x.tT.Up)::((dL x.Runes)::((dI x.bV)::((dI x.cC)::((dB x.Us)::((dI x.Bp)::((dB x.On):: [])))))))))))))))))
abbrev Pc(x:bG):Nat→cL:=(up h0 16 ⟨0,some (.box ((dE eu x.Names)::((dI x.At):: [])))⟩)
abbrev Uv(x:di):Nat→cL:=(up h0 16 ⟨0,some (.box ((dM.row 19 x.jd)++((dM.row 19 x.tS)++ [])))⟩)
abbrev abN(x:ah):Nat→PV:=(up (up (up (up u0 1000003 .un) 1000002 .un) 1000001 .un) 5 (dI (IntKind.i64.wrap (x.aT.bV-1))))
abbrev awF:aL:=(aL.mk (bW.mk 0 0 0 ([]) false) false ([]) (bH.mk 0 0 ([]) ([]) ([])) alh (dm.mk (fun _=>0) (fun _=>0) (fun _=>0) (fun _=>0)) (bG.mk ([]) 0) ([]) (di.mk (fun _=>0) (fun _=>0)) (eY.mk (fun _=>0)) (dw.mk ([]) false) false)
abbrev abO(x:aa):List PV:=((dI x.cW)::((dI x.bM.Flags)::((dI x.bM.cz)::((dI x.bM.b9):: []))))
noncomputable section
noncomputable def CV:aj→List (List PO)
 | .ai p=> [p]
 | .eF p _=> [p]
 | .seq a b=>CV a++CV b
 | .cond _ a b=>CV a++CV b
 | .block _ a=>CV a
 | .loop a=>CV a
 | _=> []
noncomputable def rG(f i:Nat):LP:=match bz Go.Proofs.Tryz.prog cR f with
 | some c=>(CV c.body).getD i []
 | none=> []
def ali:aj:=(.seq (.ai (rG 89 0)) (.seq (.seq (.ai (rG 89 1)) (.cond (.tmp 18) (.seq (.ai (rG 89 2)) .ret) .skip)) (.seq (.ai (rG 89 3)) .ret)))
def c89:aO:=⟨19,ali,[(.tmp 4)],some ([4],[],[]),false⟩
theorem atE:bz Go.Proofs.Tryz.prog cR 89=some (aU c89):=by kernel_rfl
def abP:aj:=(.seq (.ai (rG 148 0)) (.seq (.ai (rG 148 1)) .ret))
def Uw:aO:=⟨17,abP,[(.tmp 2)],some ([2],[],[]),false⟩
theorem alk:bz Go.Proofs.Tryz.prog cR 148=some (aU Uw):=by kernel_rfl
def alm:aj:=(.seq (.ai (rG 84 0)) (.seq (.seq (.ai (rG 84 1)) (.cond (.tmp 22) (.seq (.ai (rG 84 2)) .ret) .skip)) (.seq (.ai (rG 84 3)) .ret)))
def c84:aO:=⟨23,alm,[(.tmp 2)],some ([2],[],[]),false⟩
theorem atF:bz Go.Proofs.Tryz.prog cR 84=some (aU c84):=by kernel_rfl
def abQ:aj:=(.seq (.ai (rG 152 0)) (.seq (.ai (rG 152 1)) .ret))
def Ux:aO:=⟨5,abQ,[(.cell 2 .true 4)],some ([2],[(24,.id 24)],[]),false⟩
theorem alo:bz Go.Proofs.Tryz.prog cR 152=some (aU Ux):=by kernel_rfl
def atG:aj:=(.seq (.ai (rG 236 4)) (.seq (.ai (rG 236 5)) (.seq (.ai (rG 236 6)) (.seq (.ai (rG 236 7)) (.seq (.ai (rG 236 8)) (.seq (.ai (rG 236 9)) (.seq (.ai (rG 236 10)) (.seq (.ai (rG 236 11)) .ret))))))))
def abR:aj:=(.seq (.ai (rG 236 0)) (.seq (.ai (rG 236 1)) (.seq (.ai (rG 236 2)) (.seq (.ai (rG 236 3)) atG))))
def Uy:aO:=⟨51,abR,[(.tmp 4),(.tmp 5)],some ([4,5],[],[]),false⟩
theorem alp:bz Go.Proofs.Tryz.prog cR 236=some (aU Uy):=by kernel_rfl
def abS:aj:=(.keep [0,1] [] [] (.seq (.ai (rG 198 3)) (.seq (.ai (rG 198 4)) .ret)))
def abT:aj:=(.seq (.ai (rG 198 0)) (.seq (.cond (.const (.bool .false)) (.seq (.ai (rG 198 1)) (.seq (.ai (rG 198 2)) .ret)) .skip) abS))
def Uz:aO:=⟨30,abT,[(.tmp 4),(.tmp 5)],some ([4,5],[],[]),false⟩
theorem alq:bz Go.Proofs.Tryz.prog cR 198=some (aU Uz):=by kernel_rfl
def abU:aj:=(.keep [7,8] [(248,.id 248)] [] (.block 1 (.eF (rG 151 9) [])))
def abV:aj:=(.keep [7,8] [(248,.id 248)] [] (.seq (.seq (.ai (rG 151 8)) (.cond (.tmp 37) .skip (.keep [7] [(248,.id 248)] [] (.exit 0)))) abU))
def abW:aj:=(.keep [0,6] [] [] (.seq (.ai (rG 151 6)) (.seq (.ai (rG 151 7)) (.seq (.block 0 (.loop abV)) (.seq (.ai (rG 151 10)) .ret)))))
def abX:aj:=(.keep [0,1] [] [] (.seq (.ai (rG 151 3)) (.seq (.seq (.ai (rG 151 4)) (.cond (.tmp 26) (.ai (rG 151 5)) .skip)) abW)))
def abY:aj:=(.seq (.ai (rG 151 0)) (.seq (.seq (.ai (rG 151 1)) (.cond (.tmp 10) (.ai (rG 151 2)) .skip)) abX))
def UA:aO:=⟨48,abY,[(.tmp 4)],some ([4],[(248,.id 248)],[]),false⟩
theorem alr:bz Go.Proofs.Tryz.prog cR 151=some (aU UA):=by kernel_rfl
def als:aj:=(.seq (.ai (rG 90 0)) (.seq (.ai (rG 90 1)) .ret))
def c90:aO:=⟨17,als,[(.cell 6 .true 3)],some ([6],[(56,.id 56),(128,.id 128)],[]),false⟩
theorem atH:bz Go.Proofs.Tryz.prog cR 90=some (aU c90):=by kernel_rfl
def alv:aj:=(.keep [0,1,5,6] [(48,.id 48),(56,.id 56)] [.cell 56 2 0 0 1] (.seq (.seq (.ai (rG 44 4)) (.seq (.ai (rG 44 5)) (.cond (.tmp 20) (.seq (.ai (rG 44 6)) .ret) .skip))) (.seq (.ai (rG 44 7)) .ret)))
def alw:aj:=(.seq (.ai (rG 44 0)) (.seq (.seq (.ai (rG 44 1)) (.seq (.ai (rG 44 2)) (.cond (.tmp 14) (.seq (.ai (rG 44 3)) .ret) .skip))) alv))
def c44:aO:=⟨27,alw,[(.cell 6 .true 3),(.tmp 7)],some ([6,7],[(56,.id 56),(216,(.cell 56 2))],[.cell 56 2 216 100 4]),false⟩
theorem atI:bz Go.Proofs.Tryz.prog cR 44=some (aU c44):=by kernel_rfl
def CW:aj:=(.seq (.ai (rG 91 0)) (.seq (.seq (.ai (rG 91 1)) (.cond (.tmp 4) (.seq (.ai (rG 91 2)) .ret) .skip)) (.seq (.ai (rG 91 3)) .ret)))
def vX:aO:=⟨8,CW,[(.tmp 2)],some ([2],[(97,(.slot 2 none))],[]),true⟩
theorem QH:bz Go.Proofs.Tryz.prog cR 91=some (aU vX):=by kernel_rfl
def aly:aj:=(.seq (.ai (rG 45 0)) (.seq (.ai (rG 45 1)) (.seq (.ai (rG 45 2)) .ret)))
def c45:aO:=⟨8,aly,[(.cell 2 .true 3)],some ([2],[(24,.id 24),(48,.id 48)],[]),false⟩
theorem atJ:bz Go.Proofs.Tryz.prog cR 45=some (aU c45):=by kernel_rfl
def alA:aj:=(.keep [0,1,2] [(8,.id 8),(16,.id 16)] [] (.seq (.block 1 (.eF (rG 46 4) [])) (.ai (rG 46 5))))
def alB:aj:=(.keep [0,1,2] [(8,.id 8),(16,.id 16)] [] (.seq (.seq (.ai (rG 46 3)) (.cond (.tmp 4) .skip (.keep [0,1] [(8,.id 8),(16,.id 16)] [] (.exit 0)))) alA))
def alC:aj:=(.seq (.ai (rG 46 0)) (.seq (.ai (rG 46 1)) (.seq (.seq (.ai (rG 46 2)) (.block 0 (.loop alB))) (.seq (.ai (rG 46 6)) .ret))))
def c46:aO:=⟨19,alC,[(.cell 0 .true 4)],some ([0],[(8,.id 8)],[]),false⟩
theorem atK:bz Go.Proofs.Tryz.prog cR 46=some (aU c46):=by kernel_rfl
def alE:aj:=(.keep [1,4,6] [(40,.id 40),(56,.id 56),(112,.id 112)] [.cell 40 2 0 0 1,.cell 40 30 0 0 1,.cell 40 32 0 0 1] (.seq (.ai (rG 23 4)) (.seq (.eF (rG 23 5) [(0,2),(0,4),(2,5),(4,5),(2,6),(4,6)]) .ret)))
def alF:aj:=(.seq (.ai (rG 23 0)) (.seq (.ai (rG 23 1)) (.seq (.seq (.ai (rG 23 2)) (.cond (.tmp 17) (.seq (.ai (rG 23 3)) .ret) .skip)) alE)))
def c23:aO:=⟨30,alF,[(.cell 4 .true 33),(.tmp 5)],some ([4,5],[(40,.id 40),(273,(.cell 40 2)),(192,(.cell 40 30))],[.cell 40 2 273 100 4,.cell 40 30 192 100 4]),false⟩
theorem atL:bz Go.Proofs.Tryz.prog cR 23=some (aU c23):=by kernel_rfl
def Yr:aj:=(.seq (.ai (rG 24 0)) (.seq (.seq (.ai (rG 24 1)) (.cond (.tmp 4) (.seq (.ai (rG 24 2)) .ret) .skip)) (.seq (.ai (rG 24 3)) .ret)))
def Q2:aO:=⟨8,Yr,[(.tmp 2)],some ([2],[(97,(.slot 2 none))],[]),true⟩
theorem atM:bz Go.Proofs.Tryz.prog cR 24=some (aU Q2):=by kernel_rfl
def Yt:aj:=(.seq (.ai (rG 25 0)) (.seq (.seq (.ai (rG 25 1)) (.cond (.tmp 4) (.seq (.ai (rG 25 2)) .ret) .skip)) (.seq (.ai (rG 25 3)) .ret)))
def Q3:aO:=⟨8,Yt,[(.tmp 2)],some ([2],[(97,(.slot 2 none))],[]),true⟩
theorem atN:bz Go.Proofs.Tryz.prog cR 25=some (aU Q3):=by kernel_rfl
def alH:aj:=(.keep [0,5,6] [] [] (.seq (.block 1 (.seq (.ai (rG 47 3)) (.seq (.ai (rG 47 4)) (.cond (.tmp 18) (.seq (.ai (rG 47 5)) .ret) .skip)))) (.ai (rG 47 6))))
def alI:aj:=(.keep [0,5,6,7] [] [] (.seq (.cond (.tmp 7) .skip (.keep [0] [] [] (.exit 0))) alH))
def alJ:aj:=(.keep [0,5,6] [] [] (.seq (.ai (rG 47 2)) alI))
def alK:aj:=(.keep [0] [] [] (.seq (.ai (rG 47 7)) .ret))
def alL:aj:=(.seq (.ai (rG 47 0)) (.seq (.seq (.ai (rG 47 1)) (.block 0 (.loop alJ))) alK))
def c47:aO:=⟨27,alL,[(.tmp 2)],some ([2],[],[]),false⟩
theorem atO:bz Go.Proofs.Tryz.prog cR 47=some (aU c47):=by kernel_rfl
def ayp:aj:=(.loop (.seq (.ai (rG 92 2)) (.seq (.cond (.tmp 9) .skip (.exit 0)) (.seq (.block 1 (.seq (.ai (rG 92 3)) (.seq (.ai (rG 92 4)) (.cond (.tmp 16) (.seq (.ai (rG 92 5)) .ret) .skip)))) (.ai (rG 92 6))))))
def alN:aj:=(.seq (.ai (rG 92 0)) (.seq (.seq (.ai (rG 92 1)) (.block 0 ayp)) (.seq (.ai (rG 92 7)) .ret)))
def c92:aO:=⟨19,alN,[(.tmp 4)],some ([4],[],[]),false⟩
theorem atP:bz Go.Proofs.Tryz.prog cR 92=some (aU c92):=by kernel_rfl
def alP:aj:=(.seq (.ai (rG 48 0)) (.seq (.ai (rG 48 1)) .ret))
def c48:aO:=⟨9,alP,[(.tmp 4)],some ([4],[],[]),false⟩
theorem atQ:bz Go.Proofs.Tryz.prog cR 48=some (aU c48):=by kernel_rfl
def alR:aj:=(.keep [1,16,17,18] [(16,.id 16)] [] (.seq (.block 1 (.seq (.ai (rG 26 5)) (.seq (.ai (rG 26 6)) (.cond (.tmp 33) (.seq (.ai (rG 26 7)) .ret) .skip)))) (.ai (rG 26 8))))
def alS:aj:=(.keep [1,16,17,18,19] [(16,.id 16)] [] (.seq (.cond (.tmp 19) .skip (.keep [1] [(16,.id 16)] [] (.exit 0))) alR))
def alT:aj:=(.keep [1,16,17,18] [(16,.id 16)] [] (.seq (.ai (rG 26 4)) alS))
def alU:aj:=(.keep [1] [(16,.id 16)] [] (.seq (.seq (.ai (rG 26 9)) (.cond (.tmp 45) (.seq (.ai (rG 26 10)) .ret) .skip)) (.seq (.ai (rG 26 11)) .ret)))
def alV:aj:=(.keep [1] [(16,.id 16)] [] (.seq (.seq (.ai (rG 26 3)) (.block 0 (.loop alT))) alU))
def alW:aj:=(.seq (.ai (rG 26 0)) (.seq (.seq (.ai (rG 26 1)) (.cond (.tmp 14) (.seq (.ai (rG 26 2)) .ret) .skip)) alV))
def c26:aO:=⟨46,alW,[(.tmp 2)],some ([2],[],[]),false⟩
theorem atS:bz Go.Proofs.Tryz.prog cR 26=some (aU c26):=by kernel_rfl
def ayq:aj:=(.loop (.seq (.ai (rG 93 2)) (.seq (.cond (.tmp 9) .skip (.exit 0)) (.seq (.block 1 (.seq (.ai (rG 93 3)) (.seq (.ai (rG 93 4)) (.cond (.tmp 16) (.seq (.ai (rG 93 5)) .ret) .skip)))) (.ai (rG 93 6))))))
def alY:aj:=(.seq (.ai (rG 93 0)) (.seq (.seq (.ai (rG 93 1)) (.block 0 ayq)) (.seq (.ai (rG 93 7)) .ret)))
def c93:aO:=⟨19,alY,[(.tmp 4)],some ([4],[],[]),false⟩
theorem atT:bz Go.Proofs.Tryz.prog cR 93=some (aU c93):=by kernel_rfl
def al0:aj:=(.seq (.ai (rG 49 0)) (.seq (.ai (rG 49 1)) .ret))
def c49:aO:=⟨9,al0,[(.tmp 4)],some ([4],[],[]),false⟩
theorem atU:bz Go.Proofs.Tryz.prog cR 49=some (aU c49):=by kernel_rfl
def ayr:aj:=(.seq (.seq (.ai (rG 27 10)) (.cond (.tmp 30) (.ai (rG 27 11)) .skip)) (.seq (.eF (rG 27 12) [(2,5),(3,5)]) (.seq (.ai (rG 27 13)) (.cond (.tmp 39) (.eF (rG 27 14) [(1,4),(2,4)]) .skip))))
def ays:aj:=(.seq (.cond (.tmp 18) .skip (.exit 0)) (.seq (.block 1 (.seq (.ai (rG 27 6)) (.seq (.seq (.ai (rG 27 7)) (.cond (.tmp 28) (.seq (.ai (rG 27 8)) .ret) .skip)) (.seq (.ai (rG 27 9)) ayr)))) (.ai (rG 27 15))))
def al2:aj:=(.keep [0] [] [] (.seq (.ai (rG 27 3)) (.seq (.seq (.ai (rG 27 4)) (.block 0 (.loop (.seq (.ai (rG 27 5)) ays)))) (.seq (.ai (rG 27 16)) .ret))))
def al3:aj:=(.seq (.ai (rG 27 0)) (.seq (.seq (.ai (rG 27 1)) (.cond (.tmp 14) (.seq (.ai (rG 27 2)) .ret) .skip)) al2))
def c27:aO:=⟨49,al3,[(.tmp 2),(.tmp 3)],some ([2,3],[],[]),false⟩
theorem atV:bz Go.Proofs.Tryz.prog cR 27=some (aU c27):=by kernel_rfl
def Q4:LP:= [po 9 (.box 8 (tm 4)),po 10 (.alloc q8_),po 11 (.jG (ki 0))]
def G_:LP:= [pm 21 0,pm 22 1,po 23 (.call 23 [(tm 21),(tm 22)]),pm 20 23,po 24 (.ext (tm 20) 0),po 25 (.ext (tm 20) 1),po 12 (.alloc [(2,(.int .i64 0)),(1,(.slice .none 0 0)),(2,(.int .i64 0)),(1,(.bool .false)),(6,(.int .i64 0)),(4,(.int .u64 0)),(8,(.int .i64 0)),(1,(.bool .false)),(5,(.int .i64 0)),(1,(.slice .none 0 0)),(1,(.string ⟨#[]⟩)),(1,(.slice .none 0 0))]),pS 33 12 24,pm 13 25]
def zl:LP:= [pm 26 13,po 27 (.a_ .neq (tm 26) (ki 0))]
def zm:LP:= [po 28 (.build q8_ []),pm 29 13,pS 613 10 28,pm 11 29]
def LG:LP:= [po 30 (lt 33 12),pm 31 2,po 32 (c1 24 31),po 33 (.build [(1,(.slice .none 0 0)),(1,(.int .i64 0))] [(0,(1,(tm 32)))]),pm 34 3,po 35 (c1 25 34),po 36 (fd 0 9),po 37 (lt 4 36),po 38 (fd 4 9),po 39 (lt 4 38),po 40 (.build [(512,(.int .u8 0)),(8,(.int .u64 0))] [(512,(4,(tm 37))),(516,(4,(tm 39)))]),po 41 (.build q8_ [(12,(33,(tm 30))),(565,(2,(tm 33))),(567,(1,(tm 35))),(45,(520,(tm 40)))]),po 14 (.alloc q8_),pS 613 14 41]
def C3:LP:= [po 42 (fd 565 14),po 43 (lt 2 42),po 44 (c1 26 43),pm 15 44]
def wo:LP:= [pm 45 15,po 46 (.a_ .neq (tm 45) (ki 0))]
def wq:LP:= [po 47 (.build q8_ []),pm 48 15,pS 613 10 47,pm 11 48]
def ET:LP:= [pm 50 3,po 51 (c1 27 50),pm 49 51,po 52 (.ext (tm 49) 0),po 53 (.ext (tm 49) 1),pm 16 52,pm 17 53]
def EU:LP:= [pm 54 17,po 55 (.a_ .neq (tm 54) (ki 0))]
def EW:LP:= [po 56 (.build q8_ []),pm 57 17,pS 613 10 56,pm 11 57]
def EX:LP:= [po 75 (lf 1 14),po 74 (.xY .i64 (tm 75)),pS 1 14 14,pS 1 14 75,po 75 (lt 613 14),po 71 (fd 578 14),⟨.none,(.store 1 (tm 71) (.const (.int .u8 2))),.none⟩,po 71 (fd 579 14),⟨.none,(.store 1 (tm 71) (.const (.int .u8 2))),.none⟩,po 71 (fd 580 14),⟨.none,(.store 1 (tm 71) (.const (.int .u8 2))),.none⟩,po 71 (fd 581 14),⟨.none,(.store 1 (tm 71) (.const (.int .u8 2))),.none⟩,po 71 (fd 582 14),⟨.none,(.store 1 (tm 71) (.const (.int .u8 2))),.none⟩,po 71 (fd 597 14),⟨.none,(.store 1 (tm 71) (.const (.int .u8 127))),.none⟩,po 71 (fd 598 14),⟨.none,(.store 1 (tm 71) (.const (.int .u8 21))),.none⟩,po 71 (fd 599 14),⟨.none,(.store 1 (tm 71) (.const (.int .u8 23))),.none⟩,po 71 (fd 600 14),⟨.none,(.store 1 (tm 71) (.const (.int .u8 18))),.none⟩,po 71 (fd 601 14),⟨.none,(.store 1 (tm 71) (.const (.int .u8 22))),.none⟩,po 18 (.jG (.const (.map .none))),po 19 (.jG (.const (.map .none))),po 58 (.jG (.const (.map .none))),po 59 (.jG (.const (.map .none))),po 60 (.jG (.const (.map .none))),po 61 (.jG (.const (.map .none))),po 62 (.jG (.const (.map .none))),po 63 (.jG (.const (.map .none))),po 64 (.jG (.const (.map .none))),po 65 (.jG (.const (.map .none))),po 66 (.jG (.const (.map .none))),po 67 (.jG (.const (.map .none))),po 68 (.jG (.const (.map .none))),po 69 (.jG (.const (.map .none))),po 70 (.jG (.const (.map .none))),po 71 (.jG (.const (.map .none))),po 72 (.jG (.const (.map .none))),po 73 (.jG (.const (.map .none))),po 74 (.jG (.const (.map .none))),po 75 (.jG (.const (.map .none)))]
def EY:LP:= [po 75 (lt 613 14),pS 613 10 75,po 11 (.jG (ki 0))]
def He:aj:=(.keep [10,14] [(88,.id 88),(120,.id 120)] [] (.seq (.ai EX) (.seq (.ai EY) .ret)))
def zn:aj:=(.keep [3,10,14] [(88,.id 88),(120,.id 120)] [.cell 120 44 0 0 1] (.seq (.seq (.ai ET) (.seq (.ai EU) (.cond (.tmp 55) (.seq (.ai EW) .ret) .skip))) He))
def wu:aj:=(.keep [2,3,9,10,12] [(80,.id 80),(88,.id 88),(104,.id 104),(192,.id 192),(193,.id 193)] [.cell 88 14 0 0 1,.cell 88 42 0 0 1,.cell 88 44 0 0 1,.cell 88 565 0 0 1,.cell 88 567 0 0 1] (.seq (.eF LG [(0,2),(0,5),(2,7),(5,7),(2,9),(5,9),(0,12),(2,12),(5,12),(7,12),(9,12)]) (.seq (.seq (.ai C3) (.seq (.ai wo) (.cond (.tmp 46) (.seq (.ai wq) .ret) .skip))) zn)))
def al5:aj:=(.seq (.ai Q4) (.seq (.ai G_) (.seq (.seq (.ai zl) (.cond (.tmp 27) (.seq (.ai zm) .ret) .skip)) wu)))
def c11:aO:=⟨76,al5,[(.cell 10 .true 613),(.tmp 11)],some ([10,11],[(88,.id 88)],[.cell 88 14 0 0 1,.cell 88 42 0 0 1,.cell 88 44 0 0 1,.cell 88 565 0 0 1,.cell 88 567 0 0 1]),false⟩
theorem al6:uw Go.Proofs.Tryz.prog cR 11 c11:=Mp.I_ rfl (by kernel_rfl) (Mp.sq (c:=Mp.cB) (p:=(.seq (.ai Q4) (.seq (.ai G_) (.seq (.seq (.ai zl) (.cond (.tmp 27) (.seq (.ai zm) .ret) .skip)) wu)))) (c1:=Mp.fs Mp.cB) (c2:=Mp.sn Mp.cB) (p1:=(.ai Q4)) (p2:=(.seq (.ai G_) (.seq (.seq (.ai zl) (.cond (.tmp 27) (.seq (.ai zm) .ret) .skip)) wu))) (by kernel_rfl) (by kernel_rfl) (dO.code (br:=cR) (c:=(Mp.fs Mp.cB)) (p:=(.ai Q4)) (by kernel_rfl)) (Mp.sq (c:=(Mp.sn Mp.cB)) (p:=(.seq (.ai G_) (.seq (.seq (.ai zl) (.cond (.tmp 27) (.seq (.ai zm) .ret) .skip)) wu))) (c1:=Mp.fs (Mp.sn Mp.cB)) (c2:=Mp.sn (Mp.sn Mp.cB)) (p1:=(.ai G_)) (p2:=(.seq (.seq (.ai zl) (.cond (.tmp 27) (.seq (.ai zm) .ret) .skip)) wu)) (by kernel_rfl) (by kernel_rfl) (dO.code (br:=cR) (c:=(Mp.fs (Mp.sn Mp.cB))) (p:=(.ai G_)) (by kernel_rfl)) (Mp.sq (c:=(Mp.sn (Mp.sn Mp.cB))) (p:=(.seq (.seq (.ai zl) (.cond (.tmp 27) (.seq (.ai zm) .ret) .skip)) wu)) (c1:=Mp.fs (Mp.sn (Mp.sn Mp.cB))) (c2:=Mp.sn (Mp.sn (Mp.sn Mp.cB))) (p1:=(.seq (.ai zl) (.cond (.tmp 27) (.seq (.ai zm) .ret) .skip))) (p2:=wu) (by kernel_rfl) (by kernel_rfl) (dO.code (br:=cR) (c:=(Mp.fs (Mp.sn (Mp.sn Mp.cB)))) (p:=(.seq (.ai zl) (.cond (.tmp 27) (.seq (.ai zm) .ret) .skip))) (by kernel_rfl)) (Mp.kp (p:=wu) (q:=(.seq (.eF LG [(0,2),(0,5),(2,7),(5,7),(2,9),(5,9),(0,12),(2,12),(5,12),(7,12),(9,12)]) (.seq (.seq (.ai C3) (.seq (.ai wo) (.cond (.tmp 46) (.seq (.ai wq) .ret) .skip))) zn))) (L:= [2,3,9,10,12]) (B:= [(80,.id 80),(88,.id 88),(104,.id 104),(192,.id 192),(193,.id 193)]) (A:= [.cell 88 14 0 0 1,.cell 88 42 0 0 1,.cell 88 44 0 0 1,.cell 88 565 0 0 1,.cell 88 567 0 0 1]) (by kernel_rfl) (Mp.sq (c:=(Mp.sn (Mp.sn (Mp.sn Mp.cB)))) (p:=(.seq (.eF LG [(0,2),(0,5),(2,7),(5,7),(2,9),(5,9),(0,12),(2,12),(5,12),(7,12),(9,12)]) (.seq (.seq (.ai C3) (.seq (.ai wo) (.cond (.tmp 46) (.seq (.ai wq) .ret) .skip))) zn))) (c1:=Mp.fs (Mp.sn (Mp.sn (Mp.sn Mp.cB)))) (c2:=Mp.sn (Mp.sn (Mp.sn (Mp.sn Mp.cB)))) (p1:=(.eF LG [(0,2),(0,5),(2,7),(5,7),(2,9),(5,9),(0,12),(2,12),(5,12),(7,12),(9,12)])) (p2:=(.seq (.seq (.ai C3) (.seq (.ai wo) (.cond (.tmp 46) (.seq (.ai wq) .ret) .skip))) zn)) (by kernel_rfl) (by kernel_rfl) (dO.code (br:=cR) (c:=(Mp.fs (Mp.sn (Mp.sn (Mp.sn Mp.cB))))) (p:=(.eF LG [(0,2),(0,5),(2,7),(5,7),(2,9),(5,9),(0,12),(2,12),(5,12),(7,12),(9,12)])) (by kernel_rfl)) (Mp.sq (c:=(Mp.sn (Mp.sn (Mp.sn (Mp.sn Mp.cB))))) (p:=(.seq (.seq (.ai C3) (.seq (.ai wo) (.cond (.tmp 46) (.seq (.ai wq) .ret) .skip))) zn)) (c1:=Mp.fs (Mp.sn (Mp.sn (Mp.sn (Mp.sn Mp.cB))))) (c2:=Mp.sn (Mp.sn (Mp.sn (Mp.sn (Mp.sn Mp.cB))))) (p1:=(.seq (.ai C3) (.seq (.ai wo) (.cond (.tmp 46) (.seq (.ai wq) .ret) .skip)))) (p2:=zn) (by kernel_rfl) (by kernel_rfl) (dO.code (br:=cR) (c:=(Mp.fs (Mp.sn (Mp.sn (Mp.sn (Mp.sn Mp.cB)))))) (p:=(.seq (.ai C3) (.seq (.ai wo) (.cond (.tmp 46) (.seq (.ai wq) .ret) .skip)))) (by kernel_rfl)) (Mp.kp (p:=zn) (q:=(.seq (.seq (.ai ET) (.seq (.ai EU) (.cond (.tmp 55) (.seq (.ai EW) .ret) .skip))) He)) (L:= [3,10,14]) (B:= [(88,.id 88),(120,.id 120)]) (A:= [.cell 120 44 0 0 1]) (by kernel_rfl) (Mp.sq (c:=(Mp.sn (Mp.sn (Mp.sn (Mp.sn (Mp.sn Mp.cB)))))) (p:=(.seq (.seq (.ai ET) (.seq (.ai EU) (.cond (.tmp 55) (.seq (.ai EW) .ret) .skip))) He)) (c1:=Mp.fs (Mp.sn (Mp.sn (Mp.sn (Mp.sn (Mp.sn Mp.cB)))))) (c2:=Mp.sn (Mp.sn (Mp.sn (Mp.sn (Mp.sn (Mp.sn Mp.cB)))))) (p1:=(.seq (.ai ET) (.seq (.ai EU) (.cond (.tmp 55) (.seq (.ai EW) .ret) .skip)))) (p2:=He) (by kernel_rfl) (by kernel_rfl) (dO.code (br:=cR) (c:=(Mp.fs (Mp.sn (Mp.sn (Mp.sn (Mp.sn (Mp.sn Mp.cB))))))) (p:=(.seq (.ai ET) (.seq (.ai EU) (.cond (.tmp 55) (.seq (.ai EW) .ret) .skip)))) (by kernel_rfl)) (Mp.kp (p:=He) (q:=(.seq (.ai EX) (.seq (.ai EY) .ret))) (L:= [10,14]) (B:= [(88,.id 88),(120,.id 120)]) (A:= []) (by kernel_rfl) (Mp.sq (c:=(Mp.sn (Mp.sn (Mp.sn (Mp.sn (Mp.sn (Mp.sn Mp.cB))))))) (p:=(.seq (.ai EX) (.seq (.ai EY) .ret))) (c1:=Mp.fs (Mp.sn (Mp.sn (Mp.sn (Mp.sn (Mp.sn (Mp.sn Mp.cB))))))) (c2:=Mp.sn (Mp.sn (Mp.sn (Mp.sn (Mp.sn (Mp.sn (Mp.sn Mp.cB))))))) (p1:=(.ai EX)) (p2:=(.seq (.ai EY) .ret)) (by kernel_rfl) (by kernel_rfl) (Mp.rq (p:=(.ai EX)) (q:=Mp.pL) (by kernel_rfl) Mp.aku) (dO.code (br:=cR) (c:=(Mp.sn (Mp.sn (Mp.sn (Mp.sn (Mp.sn (Mp.sn (Mp.sn Mp.cB)))))))) (p:=(.seq (.ai EY) .ret)) (by kernel_rfl))))))))))))
def al7:aj:=(.keep [1,3,4] [(16,.id 16)] [] (.seq (.seq (.ai (rG 52 6)) (.cond (.tmp 41) (.ai (rG 52 7)) (.ai (rG 52 8)))) (.seq (.seq (.ai (rG 52 9)) (.cond (.tmp 86) (.seq (.ai (rG 52 10)) .ret) .skip)) (.seq (.ai (rG 52 11)) .ret))))
def al8:aj:=(.seq (.ai (rG 52 0)) (.seq (.ai (rG 52 1)) (.seq (.ai (rG 52 2)) (.seq (.seq (.ai (rG 52 3)) (.cond (.tmp 23) (.ai (rG 52 4)) (.ai (rG 52 5)))) al7))))
def c52:aO:=⟨87,al8,[(.tmp 2)],some ([2],[],[]),false⟩
theorem atW:bz Go.Proofs.Tryz.prog cR 52=some (aU c52):=by kernel_rfl
def ayt:aj:=(.seq (.seq (.ai (rG 53 1)) (.cond (.tmp 6) (.seq (.ai (rG 53 2)) .ret) .skip)) (.seq (.seq (.ai (rG 53 3)) (.seq (.ai (rG 53 4)) (.cond (.tmp 18) (.seq (.ai (rG 53 5)) .ret) .skip))) (.seq (.ai (rG 53 6)) .ret)))
def al_:aj:=(.seq (.ai (rG 53 0)) ayt)
def c53:aO:=⟨19,al_,[(.tmp 2)],some ([2],[],[]),false⟩
theorem atX:bz Go.Proofs.Tryz.prog cR 53=some (aU c53):=by kernel_rfl
def amb:aj:=(.keep [0,14,15] [] [] (.seq (.block 1 (.seq (.ai (rG 95 5)) (.seq (.ai (rG 95 6)) (.cond (.tmp 33) (.seq (.ai (rG 95 7)) .ret) .skip)))) (.ai (rG 95 8))))
def amc:aj:=(.keep [0,14,15,16] [] [] (.seq (.cond (.tmp 16) .skip (.keep [0] [] [] (.exit 0))) amb))
def amd:aj:=(.keep [0,14,15] [] [] (.seq (.ai (rG 95 4)) amc))
def atY:aj:=(.seq (.seq (.ai (rG 95 15)) (.block 4 (.loop (.seq (.ai (rG 95 16)) (.seq (.cond (.tmp 48) .skip (.exit 4)) (.seq (.block 5 (.seq (.ai (rG 95 17)) (.ai (rG 95 18)))) (.ai (rG 95 19)))))))) (.ai (rG 95 20)))
def ame:aj:=(.keep [5,7,36,37,38] [(48,.id 48)] [] (.seq (.ai (rG 95 14)) atY))
def amf:aj:=(.ai (rG 95 21))
def amg:aj:=(.keep [5,36,37,38] [(48,.id 48)] [] (.seq (.block 3 (.seq (.ai (rG 95 12)) (.seq (.seq (.ai (rG 95 13)) (.cond (.tmp 44) (.exit 2) .skip)) ame))) amf))
def amh:aj:=(.keep [5,36,37,38,39] [(48,.id 48)] [] (.seq (.cond (.tmp 39) .skip (.keep [5] [(48,.id 48)] [] (.exit 2))) amg))
def ami:aj:=(.keep [5,36,37,38] [(48,.id 48)] [] (.seq (.ai (rG 95 11)) amh))
def amj:aj:=(.keep [0] [] [] (.seq (.ai (rG 95 9)) (.seq (.seq (.ai (rG 95 10)) (.block 2 (.loop ami))) (.seq (.ai (rG 95 22)) .ret))))
def abZ:aj:=(.keep [0] [] [] (.seq (.seq (.ai (rG 95 3)) (.block 0 (.loop amd))) amj))
def amk:aj:=(.seq (.ai (rG 95 0)) (.seq (.seq (.ai (rG 95 1)) (.cond (.tmp 12) (.seq (.ai (rG 95 2)) .ret) .skip)) abZ))
def c95:aO:=⟨67,amk,[(.tmp 2),(.tmp 3)],some ([2,3],[(48,.id 48)],[]),false⟩
theorem atZ:bz Go.Proofs.Tryz.prog cR 95=some (aU c95):=by kernel_rfl
def amm:aj:=(.seq (.ai (rG 96 0)) (.seq (.ai (rG 96 1)) .ret))
def c96:aO:=⟨15,amm,[(.tmp 6)],some ([6],[],[]),false⟩
theorem at0:bz Go.Proofs.Tryz.prog cR 96=some (aU c96):=by kernel_rfl
def amo:aj:=(.keep [0,1,7,8] [] [] (.seq (.block 1 (.seq (.ai (rG 97 3)) (.seq (.ai (rG 97 4)) (.cond (.tmp 16) (.seq (.ai (rG 97 5)) .ret) .skip)))) (.ai (rG 97 6))))
def amp:aj:=(.keep [0,1,7,8,9] [] [] (.seq (.cond (.tmp 9) .skip (.keep [0,1] [] [] (.exit 0))) amo))
def amq:aj:=(.keep [0,1,7,8] [] [] (.seq (.ai (rG 97 2)) amp))
def amr:aj:=(.seq (.ai (rG 97 0)) (.seq (.seq (.ai (rG 97 1)) (.block 0 (.loop amq))) (.seq (.ai (rG 97 7)) .ret)))
def Yu:aO:=⟨22,amr,[(.tmp 4)],some ([4],[],[]),false⟩
theorem at1:bz Go.Proofs.Tryz.prog cR 97=some (aU Yu):=by kernel_rfl
def ams:aj:=(.keep [1,5,6] [(16,.id 16)] [] (.seq (.ai (rG 54 6)) (.seq (.ai (rG 54 7)) (.seq (.seq (.ai (rG 54 8)) (.cond (.tmp 107) (.seq (.ai (rG 54 9)) .ret) .skip)) (.seq (.ai (rG 54 10)) .ret)))))
def amt:aj:=(.seq (.ai (rG 54 0)) (.seq (.ai (rG 54 1)) (.seq (.ai (rG 54 2)) (.seq (.ai (rG 54 3)) (.seq (.ai (rG 54 4)) (.seq (.ai (rG 54 5)) ams))))))
def c54:aO:=⟨108,amt,[(.tmp 2)],some ([2],[],[]),false⟩
theorem at2:bz Go.Proofs.Tryz.prog cR 54=some (aU c54):=by kernel_rfl
def Yv:aj:=(.seq (.ai (rG 38 0)) (.seq (.ai (rG 38 1)) .ret))
def Q5:aO:=⟨17,Yv,[(.tmp 4)],some ([4,2000000],[(0,.id 0)],[]),false⟩
theorem at3:bz Go.Proofs.Tryz.prog cR 38=some (aU Q5):=by kernel_rfl
def ab0:aj:=(.keep [0,7,8,9] [] [] (.seq (.block 1 (.seq (.ai (rG 194 3)) (.seq (.ai (rG 194 4)) (.cond (.tmp 22) (.seq (.ai (rG 194 5)) .ret) .skip)))) (.ai (rG 194 6))))
def ab1:aj:=(.keep [0,7,8,9,10] [] [] (.seq (.cond (.tmp 10) .skip (.keep [] [] [] (.exit 0))) ab0))
def ab2:aj:=(.keep [0,7,8,9] [] [] (.seq (.ai (rG 194 2)) ab1))
def ab3:aj:=(.seq (.ai (rG 194 0)) (.seq (.seq (.ai (rG 194 1)) (.block 0 (.loop ab2))) (.seq (.ai (rG 194 7)) .ret)))
def LH:aO:=⟨24,ab3,[(.tmp 4)],some ([4],[],[]),false⟩
theorem amv:bz Go.Proofs.Tryz.prog cR 194=some (aU LH):=by kernel_rfl
def ab4:aj:=(.keep [0,4,25] [(40,.id 40)] [] (.cond (.tmp 25) (.seq (.ai (rG 146 4)) .ret) (.seq (.ai (rG 146 5)) (.cond (.tmp 37) (.seq (.ai (rG 146 6)) .ret) .skip))))
def ab5:aj:=(.seq (.ai (rG 146 7)) .ret)
def ab6:aj:=(.seq (.ai (rG 146 0)) (.seq (.ai (rG 146 1)) (.seq (.ai (rG 146 2)) (.seq (.block 0 (.seq (.ai (rG 146 3)) ab4)) ab5))))
def UB:aO:=⟨41,ab6,[(.tmp 2)],some ([2],[],[]),false⟩
theorem amw:bz Go.Proofs.Tryz.prog cR 146=some (aU UB):=by kernel_rfl
def ab7:aj:=(.seq (.ai (rG 195 0)) (.seq (.eF (rG 195 1) []) .ret))
def UC:aO:=⟨30,ab7,[(.tmp 3)],some ([3],[],[]),false⟩
theorem amx:bz Go.Proofs.Tryz.prog cR 195=some (aU UC):=by kernel_rfl
def ab8:aj:=(.keep [1,2,5] [(24,.id 24)] [] (.seq (.ai (rG 147 4)) .ret))
def ab9:aj:=(.seq (.ai (rG 147 0)) (.seq (.ai (rG 147 1)) (.seq (.seq (.ai (rG 147 2)) (.cond (.tmp 12) (.seq (.ai (rG 147 3)) .ret) .skip)) ab8)))
def UD:aO:=⟨45,ab9,[(.tmp 4)],some ([4],[],[]),false⟩
theorem amy:bz Go.Proofs.Tryz.prog cR 147=some (aU UD):=by kernel_rfl
def amz:aj:=(.keep [1,5,26,27,33,34,35] [(16,.id 16)] [] (.seq (.block 3 (.seq (.ai (rG 83 12)) (.seq (.ai (rG 83 13)) (.cond (.tmp 59) (.seq (.ai (rG 83 14)) .ret) .skip)))) (.ai (rG 83 15))))
def amA:aj:=(.keep [1,5,26,27,33,34,35,36] [(16,.id 16)] [] (.seq (.cond (.tmp 36) .skip (.keep [1,26,27] [(16,.id 16)] [] (.exit 2))) amz))
def amB:aj:=(.keep [1,5,26,27,33,34,35] [(16,.id 16)] [] (.seq (.ai (rG 83 11)) amA))
def amC:aj:=(.keep [1,26,27] [(16,.id 16)] [] (.seq (.block 1 (.seq (.ai (rG 83 8)) (.seq (.ai (rG 83 9)) (.seq (.ai (rG 83 10)) (.block 2 (.loop amB)))))) (.ai (rG 83 16))))
def amD:aj:=(.keep [1,26,27,28] [(16,.id 16)] [] (.seq (.cond (.tmp 28) .skip (.keep [] [] [] (.exit 0))) amC))
def amE:aj:=(.keep [1,26,27] [(16,.id 16)] [] (.seq (.ai (rG 83 7)) amD))
def amF:aj:=(.keep [1] [(16,.id 16)] [] (.seq (.seq (.ai (rG 83 6)) (.block 0 (.loop amE))) (.seq (.ai (rG 83 17)) .ret)))
def amG:aj:=(.keep [1] [(16,.id 16)] [] (.seq (.seq (.ai (rG 83 4)) (.cond (.tmp 24) (.seq (.ai (rG 83 5)) .ret) .skip)) amF))
def amH:aj:=(.seq (.ai (rG 83 0)) (.seq (.seq (.ai (rG 83 1)) (.seq (.ai (rG 83 2)) (.cond (.tmp 14) (.seq (.ai (rG 83 3)) .ret) .skip))) amG))
def UE:aO:=⟨62,amH,[(.tmp 2)],some ([2],[],[]),false⟩
theorem at4:bz Go.Proofs.Tryz.prog cR 83=some (aU UE):=by kernel_rfl
def amI:aj:=(.seq (.ai (rG 98 0)) (.seq (.ai (rG 98 1)) .ret))
def c98:aO:=⟨15,amI,[(.tmp 6)],some ([6],[],[]),false⟩
theorem at5:bz Go.Proofs.Tryz.prog cR 98=some (aU c98):=by kernel_rfl
def amK:aj:=(.seq (.ai (rG 99 0)) (.seq (.ai (rG 99 1)) .ret))
def c99:aO:=⟨9,amK,[(.tmp 2)],some ([2],[],[]),false⟩
theorem at6:bz Go.Proofs.Tryz.prog cR 99=some (aU c99):=by kernel_rfl
def at7:aj:=(.seq (.ai (rG 100 2)) (.seq (.cond (.tmp 8) .skip (.exit 0)) (.seq (.block 1 (.seq (.ai (rG 100 3)) (.seq (.ai (rG 100 4)) (.cond (.tmp 18) (.seq (.ai (rG 100 5)) .ret) .skip)))) (.ai (rG 100 6)))))
def ab_:aj:=(.seq (.ai (rG 100 0)) (.seq (.seq (.ai (rG 100 1)) (.block 0 (.loop at7))) (.seq (.ai (rG 100 7)) .ret)))
def UF:aO:=⟨23,ab_,[(.tmp 2)],some ([2],[],[]),false⟩
theorem amM:bz Go.Proofs.Tryz.prog cR 100=some (aU UF):=by kernel_rfl
def Yw:aj:=(.keep [1,5,98] [(16,.id 16)] [] (.seq (.block 1 (.seq (.ai (rG 55 8)) (.ai (rG 55 9)))) (.ai (rG 55 10))))
def Yx:aj:=(.loop (.seq (.ai (rG 55 7)) (.seq (.cond (.tmp 99) .skip (.exit 0)) Yw)))
def Q6:aj:=(.keep [1,5] [(16,.id 16)] [] (.seq (.ai (rG 55 11)) (.seq (.ai (rG 55 12)) (.seq (.ai (rG 55 13)) (.seq (.seq (.ai (rG 55 14)) (.cond (.tmp 156) (.seq (.ai (rG 55 15)) .ret) .skip)) (.seq (.ai (rG 55 16)) .ret))))))
def amN:aj:=(.keep [1,5] [(16,.id 16)] [] (.seq (.ai (rG 55 5)) (.seq (.seq (.ai (rG 55 6)) (.block 0 Yx)) Q6)))
def amO:aj:=(.keep [1,3,5] [(16,.id 16),(32,.id 32)] [] (.seq (.ai (rG 55 3)) (.seq (.ai (rG 55 4)) amN)))
def amP:aj:=(.seq (.ai (rG 55 0)) (.seq (.eF (rG 55 1) [(1,4),(3,4),(1,5),(3,5),(4,5),(3,6)]) (.seq (.ai (rG 55 2)) amO)))
def c55:aO:=⟨157,amP,[(.tmp 2)],some ([2],[],[]),false⟩
theorem at8:bz Go.Proofs.Tryz.prog cR 55=some (aU c55):=by kernel_rfl
def acd:aj:=(.seq (.ai (rG 101 0)) (.seq (.ai (rG 101 1)) .ret))
def UG:aO:=⟨9,acd,[(.tmp 2)],some ([2],[],[]),false⟩
theorem amR:bz Go.Proofs.Tryz.prog cR 101=some (aU UG):=by kernel_rfl
def Yy:aj:=(.keep [11,12,15,16] [] [] (.seq (.block 3 (.seq (.ai (rG 56 6)) (.seq (.ai (rG 56 7)) (.cond (.tmp 22) (.seq (.ai (rG 56 8)) .ret) .skip)))) (.ai (rG 56 9))))
def Yz:aj:=(.keep [11,12,15,16,17] [] [] (.seq (.cond (.tmp 17) .skip (.keep [11,12] [] [] (.exit 2))) Yy))
def YA:aj:=(.keep [11,12,15,16] [] [] (.seq (.ai (rG 56 5)) Yz))
def YB:aj:=(.keep [11,12] [] [] (.seq (.block 1 (.seq (.ai (rG 56 3)) (.seq (.ai (rG 56 4)) (.block 2 (.loop YA))))) (.ai (rG 56 10))))
def YC:aj:=(.loop (.seq (.ai (rG 56 2)) (.seq (.cond (.tmp 13) .skip (.exit 0)) YB)))
def YD:aj:=(.seq (.ai (rG 56 11)) .ret)
def amS:aj:=(.seq (.ai (rG 56 0)) (.seq (.seq (.ai (rG 56 1)) (.block 0 YC)) YD))
def Q7:aO:=⟨25,amS,[(.tmp 2)],some ([2],[],[]),false⟩
theorem at9:bz Go.Proofs.Tryz.prog cR 56=some (aU Q7):=by kernel_rfl
def amT:aj:=(.keep [1,6,7] [(16,.id 16)] [] (.seq (.block 1 (.seq (.ai (rG 57 3)) (.seq (.ai (rG 57 4)) (.cond (.tmp 11) (.seq (.ai (rG 57 5)) .ret) .skip)))) (.ai (rG 57 6))))
def amU:aj:=(.keep [1,6,7,8] [(16,.id 16)] [] (.seq (.cond (.tmp 8) .skip (.keep [1] [(16,.id 16)] [] (.exit 0))) amT))
def amV:aj:=(.keep [1,6,7] [(16,.id 16)] [] (.seq (.ai (rG 57 2)) amU))
def amW:aj:=(.keep [1] [(16,.id 16)] [] (.seq (.seq (.ai (rG 57 7)) (.cond (.tmp 22) (.seq (.ai (rG 57 8)) .ret) .skip)) (.seq (.ai (rG 57 9)) .ret)))
def amX:aj:=(.seq (.ai (rG 57 0)) (.seq (.seq (.ai (rG 57 1)) (.block 0 (.loop amV))) amW))
def c57:aO:=⟨23,amX,[(.tmp 2)],some ([2],[],[]),false⟩
theorem aua:bz Go.Proofs.Tryz.prog cR 57=some (aU c57):=by kernel_rfl
def amZ:aj:=(.seq (.ai (rG 58 0)) (.seq (.seq (.ai (rG 58 1)) (.cond (.tmp 6) (.seq (.ai (rG 58 2)) .ret) .skip)) (.seq (.ai (rG 58 3)) .ret)))
def c58:aO:=⟨7,amZ,[(.tmp 2)],some ([2],[],[]),false⟩
theorem aub:bz Go.Proofs.Tryz.prog cR 58=some (aU c58):=by kernel_rfl
def ayu:aj:=(.eF (rG 28 2) [(2,4),(2,7),(5,7),(2,10),(5,10),(8,10),(2,13),(5,13),(8,13),(11,13),(2,16),(5,16),(8,16),(11,16),(14,16),(2,20),(5,20),(8,20),(11,20),(14,20),(17,20),(2,23),(5,23),(8,23),(11,23),(14,23),(17,23),(21,23)])
def am1:aj:=(.keep [38,39] [] [] (.seq (.block 1 (.seq (.ai (rG 28 4)) (.seq (.ai (rG 28 5)) (.cond (.tmp 43) (.seq (.ai (rG 28 6)) .ret) .skip)))) (.ai (rG 28 7))))
def am2:aj:=(.keep [38,39,40] [] [] (.seq (.cond (.tmp 40) .skip (.keep [] [] [] (.exit 0))) am1))
def am3:aj:=(.keep [38,39] [] [] (.seq (.ai (rG 28 3)) am2))
def am4:aj:=(.seq (.ai (rG 28 0)) (.seq (.ai (rG 28 1)) (.seq (.seq ayu (.block 0 (.loop am3))) (.seq (.ai (rG 28 8)) .ret))))
def c28:aO:=⟨45,am4,[(.tmp 2)],some ([2],[],[]),false⟩
theorem auc:bz Go.Proofs.Tryz.prog cR 28=some (aU c28):=by kernel_rfl
def am6:aj:=(.keep [1,2,3,15,16,17] [(16,.id 16),(72,.id 72),(96,.id 96),(24,.id 24),(32,.id 32)] [] (.seq (.block 1 (.seq (.ai (rG 59 5)) (.ai (rG 59 6)))) (.ai (rG 59 7))))
def am7:aj:=(.keep [1,2,3,15,16,17,18] [(16,.id 16),(72,.id 72),(96,.id 96),(24,.id 24),(32,.id 32)] [] (.seq (.cond (.tmp 18) .skip (.keep [1,2,3] [(16,.id 16),(72,.id 72),(96,.id 96),(24,.id 24),(32,.id 32)] [] (.exit 0))) am6))
def am8:aj:=(.keep [1,2,3,15,16,17] [(16,.id 16),(72,.id 72),(96,.id 96),(24,.id 24),(32,.id 32)] [.cell 24 2 0 0 1,.cell 24 30 0 0 1,.cell 24 32 0 0 1] (.seq (.ai (rG 59 4)) am7))
def am9:aj:=(.seq (.ai (rG 59 0)) (.seq (.eF (rG 59 1) [(2,4)]) (.seq (.ai (rG 59 2)) (.seq (.seq (.ai (rG 59 3)) (.block 0 (.loop am8))) (.seq (.ai (rG 59 8)) (.seq (.ai (rG 59 9)) .ret))))))
def c59:aO:=⟨32,am9,[(.cell 2 .true 33)],some ([2],[(24,.id 24),(72,.id 72),(96,.id 96),(32,.id 32)],[]),false⟩
theorem aud:bz Go.Proofs.Tryz.prog cR 59=some (aU c59):=by kernel_rfl
def ana:aj:=(.seq (.ai (rG 29 0)) (.seq (.ai (rG 29 1)) (.seq (.eF (rG 29 2) [(3,5)]) (.seq (.ai (rG 29 3)) .ret))))
def YE:aO:=⟨18,ana,[(.cell 2 .true 613)],some ([2],[(24,.id 24)],[]),false⟩
theorem aue:bz Go.Proofs.Tryz.prog cR 29=some (aU YE):=by kernel_rfl
def auf:aj:=(.cond (.tmp 76) (.seq (.ai (rG 156 13)) (.cond (.tmp 79) (.ai (rG 156 14)) (.ai (rG 156 15)))) (.seq (.ai (rG 156 16)) (.cond (.tmp 10) (.seq (.ai (rG 156 17)) (.ai (rG 156 18))) (.ai (rG 156 19)))))
def aug:aj:=(.cond (.tmp 39) (.ai (rG 156 6)) (.seq (.ai (rG 156 7)) (.cond (.tmp 44) (.seq (.ai (rG 156 8)) (.ai (rG 156 9))) (.seq (.ai (rG 156 10)) (.cond (.tmp 64) (.ai (rG 156 11)) (.seq (.ai (rG 156 12)) auf))))))
def ace:aj:=(.seq (.ai (rG 156 0)) (.block 0 (.seq (.ai (rG 156 1)) (.cond (.tmp 21) (.seq (.ai (rG 156 2)) (.cond (.tmp 24) (.ai (rG 156 3)) (.ai (rG 156 4)))) (.seq (.ai (rG 156 5)) aug)))))
def UH:aO:=⟨87,ace,[],some ([1000001,1000002,1000003],[(0,.id 0),(1,.id 1),(2,.id 2),(3,.id 3)],[]),false⟩
theorem anb:bz Go.Proofs.Tryz.prog cR 156=some (aU UH):=by kernel_rfl
def acf:aj:=(.seq (.ai (rG 157 0)) (.cond (.tmp 7) (.seq (.eF (rG 157 1) [(4,11)]) (.ai (rG 157 2))) .skip))
def UI:aO:=⟨26,acf,[],some ([1000001,1000002,1000003],[(0,.id 0),(1,.id 1),(2,.id 2),(3,.id 3)],[.cell 0 6 2 5 1]),false⟩
theorem anc:bz Go.Proofs.Tryz.prog cR 157=some (aU UI):=by kernel_rfl
def acg:aj:=(.keep [1,4,8,23,24] [(40,.id 40),(176,.id 176),(160,.id 160),(452,.id 452),(453,.id 453)] [] (.seq (.block 1 (.seq (.ai (rG 102 7)) (.ai (rG 102 8)))) (.ai (rG 102 9))))
def ach:aj:=(.keep [1,4,8,23,24,25] [(40,.id 40),(176,.id 176),(160,.id 160),(452,.id 452),(453,.id 453)] [] (.seq (.cond (.tmp 25) .skip (.keep [4,8] [(40,.id 40),(176,.id 176),(160,.id 160),(452,.id 452),(453,.id 453)] [] (.exit 0))) acg))
def aci:aj:=(.keep [1,4,8,23,24] [(40,.id 40),(176,.id 176),(160,.id 160),(452,(.cell 176 6)),(453,(.cell 176 7))] [.cell 176 6 452 5 1,.cell 176 7 453 201 4] (.seq (.ai (rG 102 6)) ach))
def acj:aj:=(.keep [4,8] [(40,.id 40),(176,.id 176),(160,.id 160),(452,.id 452),(453,.id 453)] [] (.seq (.ai (rG 102 10)) (.seq (.ai (rG 102 11)) (.seq (.eF (rG 102 12) [(7,8)]) .ret))))
def ack:aj:=(.keep [1,2,4] [(24,.id 24),(40,.id 40)] [] (.seq (.ai (rG 102 4)) (.seq (.seq (.ai (rG 102 5)) (.block 0 (.loop aci))) acj)))
def acm:aj:=(.seq (.ai (rG 102 0)) (.seq (.seq (.ai (rG 102 1)) (.seq (.ai (rG 102 2)) (.cond (.tmp 13) (.seq (.ai (rG 102 3)) .ret) .skip))) ack))
def Pd:aO:=⟨52,acm,[(.cell 4 .true 5),(.tmp 5),(.tmp 6)],some ([4,5,6],[(40,.id 40),(451,(.slot 5 none))],[]),false⟩
theorem UJ:bz Go.Proofs.Tryz.prog cR 102=some (aU Pd):=by kernel_rfl
def acn:aj:=(.seq (.ai (rG 107 0)) (.seq (.ai (rG 107 1)) .ret))
def UK:aO:=⟨14,acn,[(.tmp 4)],some ([4],[],[]),false⟩
theorem ane:bz Go.Proofs.Tryz.prog cR 107=some (aU UK):=by kernel_rfl
def auh:aj:=(.seq (.ai (rG 158 10)) (.block 2 (.seq (.ai (rG 158 11)) (.cond (.tmp 26) (.seq (.ai (rG 158 12)) (.exit 1)) (.seq (.ai (rG 158 13)) (.cond (.tmp 31) (.seq (.ai (rG 158 14)) (.exit 1)) .skip))))))
def aco:aj:=(.keep [0,1,8,10,17,18] [(72,.id 72)] [] (.seq (.ai (rG 158 16)) (.cond (.tmp 40) (.ai (rG 158 17)) (.ai (rG 158 18)))))
def acp:aj:=(.ai (rG 158 19))
def acq:aj:=(.keep [0,1,8,17,18] [(72,.id 72)] [] (.seq (.block 1 (.seq (.ai (rG 158 6)) (.seq (.ai (rG 158 7)) (.seq (.seq (.ai (rG 158 8)) (.cond (.tmp 24) (.seq (.ai (rG 158 9)) (.seq auh (.ai (rG 158 15)))) .skip)) aco)))) acp))
def acr:aj:=(.keep [0,1,8,17,18,19] [(72,.id 72)] [] (.seq (.cond (.tmp 19) .skip (.keep [0,8] [(72,.id 72)] [] (.exit 0))) acq))
def acs:aj:=(.keep [0,1,8,17,18] [(72,.id 72)] [] (.seq (.ai (rG 158 5)) acr))
def acu:aj:=(.keep [0,1] [] [] (.seq (.ai (rG 158 3)) (.seq (.seq (.ai (rG 158 4)) (.block 0 (.loop acs))) (.seq (.eF (rG 158 20) []) .ret))))
def acv:aj:=(.seq (.ai (rG 158 0)) (.seq (.seq (.ai (rG 158 1)) (.cond (.tmp 11) (.seq (.ai (rG 158 2)) .ret) .skip)) acu))
def UL:aO:=⟨49,acv,[(.tmp 6),(.tmp 7)],some ([6,7],[],[]),false⟩
theorem anf:bz Go.Proofs.Tryz.prog cR 158=some (aU UL):=by kernel_rfl
def aui:aj:=(.seq (.block 2 (.seq (.ai (rG 159 10)) (.cond (.tmp 42) (.seq (.ai (rG 159 11)) (.ai (rG 159 12))) (.seq (.ai (rG 159 13)) (.cond (.tmp 54) (.seq (.ai (rG 159 14)) .ret) (.ai (rG 159 15))))))) (.ai (rG 159 16)))
def acw:aj:=(.keep [1,8] [(72,.id 72)] [] (.block 1 (.seq (.seq (.ai (rG 159 7)) (.cond (.tmp 25) (.seq (.eF (rG 159 8) []) (.exit 1)) .skip)) (.seq (.ai (rG 159 9)) aui))))
def acy:aj:=(.keep [1,8] [(72,.id 72)] [] (.seq (.seq (.ai (rG 159 6)) (.cond (.tmp 22) .skip (.keep [8] [(72,.id 72)] [] (.exit 0)))) acw))
def acz:aj:=(.keep [0,1] [] [] (.seq (.ai (rG 159 4)) (.seq (.seq (.ai (rG 159 5)) (.block 0 (.loop acy))) (.seq (.ai (rG 159 17)) .ret))))
def acA:aj:=(.seq (.ai (rG 159 0)) (.seq (.seq (.ai (rG 159 1)) (.seq (.ai (rG 159 2)) (.cond (.tmp 16) (.seq (.ai (rG 159 3)) .ret) .skip))) acz))
def UM:aO:=⟨70,acA,[(.tmp 4),(.tmp 5),(.tmp 6)],some ([4,5,6],[(72,.id 72)],[]),false⟩
theorem ang:bz Go.Proofs.Tryz.prog cR 159=some (aU UM):=by kernel_rfl
def acB:aj:=(.seq (.ai (rG 239 0)) (.eF (rG 239 1) [(4,6)]))
def UN:aO:=⟨14,acB,[],some ([1000001],[(0,.id 0),(1,.id 1)],[]),false⟩
theorem anh:bz Go.Proofs.Tryz.prog cR 239=some (aU UN):=by kernel_rfl
def auj:aj:=(.cond (.tmp 8) (.ai (rG 242 3)) (.seq (.ai (rG 242 4)) (.cond (.tmp 11) .skip (.seq (.ai (rG 242 5)) (.cond (.tmp 18) (.seq (.ai (rG 242 6)) (.seq (.ai (rG 242 7)) .ret)) (.seq (.ai (rG 242 8)) .ret))))))
def auk:aj:=(.seq (.ai (rG 242 1)) (.seq (.block 0 (.seq (.ai (rG 242 2)) auj)) (.seq (.seq (.ai (rG 242 9)) (.cond (.tmp 30) (.ai (rG 242 10)) .skip)) (.seq (.ai (rG 242 11)) (.seq (.ai (rG 242 12)) .ret)))))
def acC:aj:=(.seq (.ai (rG 242 0)) auk)
def UO:aO:=⟨37,acC,[(.tmp 4)],some ([4,1000001],[(0,.id 0),(1,.id 1)],[]),false⟩
theorem ani:bz Go.Proofs.Tryz.prog cR 242=some (aU UO):=by kernel_rfl
def aul:aj:=(.seq (.ai (rG 208 7)) (.cond (.tmp 26) (.seq (.ai (rG 208 8)) (.seq (.seq (.ai (rG 208 9)) (.cond (.tmp 33) (.ai (rG 208 10)) .skip)) (.seq (.ai (rG 208 11)) (.seq (.ai (rG 208 12)) .ret)))) .skip))
def acD:aj:=(.keep [0,1,22,1000001] [(0,.id 0),(1,.id 1)] [] (.cond (.tmp 22) (.seq aul (.ai (rG 208 13))) .skip))
def acE:aj:=(.keep [0,1,15,16,1000001] [(0,.id 0),(1,.id 1)] [] (.cond (.tmp 16) (.seq (.ai (rG 208 4)) .ret) (.seq (.seq (.ai (rG 208 5)) (.cond (.tmp 22) .skip (.ai (rG 208 6)))) acD)))
def aum:aj:=(.seq (.ai (rG 208 15)) (.cond (.tmp 54) (.ai (rG 208 16)) (.seq (.ai (rG 208 17)) (.cond (.tmp 65) (.ai (rG 208 18)) (.seq (.ai (rG 208 19)) (.cond (.tmp 70) (.ai (rG 208 20)) (.ai (rG 208 21))))))))
def Jf:aj:=(.keep [0,1,1000001] [(0,.id 0),(1,.id 1)] [] (.block 1 (.seq (.ai (rG 208 14)) (.cond (.tmp 50) .skip aum))))
def acF:aj:=(.keep [0,1,1000001] [(0,.id 0),(1,.id 1)] [] (.seq (.seq (.ai (rG 208 1)) (.block 0 (.seq (.seq (.ai (rG 208 2)) (.cond (.tmp 16) .skip (.ai (rG 208 3)))) acE))) Jf))
def acG:aj:=(.seq (.seq (.ai (rG 208 0)) (.cond (.tmp 10) .ret .skip)) acF)
def UQ:aO:=⟨80,acG,[],some ([1000001],[(0,.id 0),(1,.id 1)],[]),false⟩
theorem anj:bz Go.Proofs.Tryz.prog cR 208=some (aU UQ):=by kernel_rfl
def acH:aj:=(.keep [4,8,20,21,22] [(40,.id 40),(160,.id 160),(339,.id 339)] [] (.seq (.block 1 (.seq (.ai (rG 160 7)) (.ai (rG 160 8)))) (.ai (rG 160 9))))
def acI:aj:=(.keep [4,8,20,21,22,23] [(40,.id 40),(160,.id 160),(339,.id 339)] [] (.seq (.cond (.tmp 23) .skip (.keep [4,8] [(40,.id 40),(160,.id 160),(339,.id 339)] [] (.exit 0))) acH))
def acJ:aj:=(.keep [4,8,20,21,22] [(40,.id 40),(160,.id 160),(339,(.cell 160 5))] [.cell 160 5 339 81 6] (.seq (.ai (rG 160 6)) acI))
def acK:aj:=(.keep [4,8] [(40,.id 40),(160,.id 160),(339,.id 339)] [] (.seq (.eF (rG 160 10) [(7,8)]) .ret))
def acL:aj:=(.keep [1,2,4] [(24,.id 24),(40,.id 40)] [] (.seq (.ai (rG 160 4)) (.seq (.seq (.ai (rG 160 5)) (.block 0 (.loop acJ))) acK)))
def acM:aj:=(.seq (.ai (rG 160 0)) (.seq (.seq (.ai (rG 160 1)) (.seq (.ai (rG 160 2)) (.cond (.tmp 14) (.seq (.ai (rG 160 3)) .ret) .skip))) acL))
def UR:aO:=⟨38,acM,[(.cell 4 .true 5),(.tmp 5),(.tmp 6)],some ([4,5,6],[(40,.id 40),(338,(.slot 5 none))],[]),false⟩
theorem ank:bz Go.Proofs.Tryz.prog cR 160=some (aU UR):=by kernel_rfl
def aun:aj:=(.seq (.ai (rG 263 2)) (.seq (.cond (.tmp 9) .skip (.exit 0)) (.seq (.block 1 (.seq (.ai (rG 263 3)) (.seq (.ai (rG 263 4)) (.cond (.tmp 16) (.seq (.ai (rG 263 5)) .ret) .skip)))) (.ai (rG 263 6)))))
def acN:aj:=(.seq (.ai (rG 263 0)) (.seq (.seq (.ai (rG 263 1)) (.block 0 (.loop aun))) (.seq (.ai (rG 263 7)) .ret)))
def UT:aO:=⟨19,acN,[(.tmp 4)],some ([4],[],[]),false⟩
theorem anl:bz Go.Proofs.Tryz.prog cR 263=some (aU UT):=by kernel_rfl
def acO:aj:=(.seq (.ai (rG 232 0)) (.seq (.ai (rG 232 1)) .ret))
def UU:aO:=⟨9,acO,[(.tmp 4)],some ([4],[],[]),false⟩
theorem anm:bz Go.Proofs.Tryz.prog cR 232=some (aU UU):=by kernel_rfl
def acP:aj:=(.keep [5,6,7] [] [] (.seq (.block 1 (.seq (.ai (rG 209 3)) (.seq (.ai (rG 209 4)) (.cond (.tmp 25) (.seq (.ai (rG 209 5)) .ret) .skip)))) (.ai (rG 209 6))))
def acQ:aj:=(.keep [5,6,7,8] [] [] (.seq (.cond (.tmp 8) .skip (.keep [] [] [] (.exit 0))) acP))
def acR:aj:=(.keep [5,6,7] [] [] (.seq (.ai (rG 209 2)) acQ))
def acS:aj:=(.seq (.ai (rG 209 0)) (.seq (.seq (.ai (rG 209 1)) (.block 0 (.loop acR))) (.seq (.ai (rG 209 7)) .ret)))
def UW:aO:=⟨27,acS,[(.tmp 2)],some ([2],[],[]),false⟩
theorem ann:bz Go.Proofs.Tryz.prog cR 209=some (aU UW):=by kernel_rfl
def auo:aj:=(.seq (.ai (rG 298 4)) (.cond (.tmp 12) (.seq (.ai (rG 298 5)) .ret) (.seq (.ai (rG 298 6)) (.cond (.tmp 15) (.seq (.ai (rG 298 7)) .ret) (.seq (.ai (rG 298 8)) (.cond (.tmp 22) (.seq (.ai (rG 298 9)) .ret) .skip))))))
def acT:aj:=(.seq (.ai (rG 298 0)) (.seq (.ai (rG 298 1)) (.seq (.block 0 (.seq (.ai (rG 298 2)) (.cond (.tmp 7) (.seq (.ai (rG 298 3)) .ret) auo))) (.seq (.ai (rG 298 10)) .ret))))
def UX:aO:=⟨39,acT,[(.tmp 4)],some ([4],[],[]),false⟩
theorem ano:bz Go.Proofs.Tryz.prog cR 298=some (aU UX):=by kernel_rfl
def acU:aj:=(.seq (.ai (rG 271 0)) (.seq (.seq (.ai (rG 271 1)) (.cond (.tmp 8) (.seq (.ai (rG 271 2)) .ret) .skip)) (.seq (.ai (rG 271 3)) .ret)))
def UY:aO:=⟨12,acU,[(.tmp 4),(.tmp 5)],some ([4,5],[],[]),false⟩
theorem anp:bz Go.Proofs.Tryz.prog cR 271=some (aU UY):=by kernel_rfl
def acV:aj:=(.seq (.ai (rG 299 0)) (.seq (.ai (rG 299 1)) .ret))
def UZ:aO:=⟨12,acV,[(.tmp 6)],some ([6],[],[]),false⟩
theorem anq:bz Go.Proofs.Tryz.prog cR 299=some (aU UZ):=by kernel_rfl
def acW:aj:=(.seq (.ai (rG 272 0)) (.ai (rG 272 1)))
def Pe:aO:=⟨21,acW,[],some ([2000000],[(0,.id 0),(1,.id 1),(2,.id 2),(3,.id 3)],[]),false⟩
theorem anr:bz Go.Proofs.Tryz.prog cR 272=some (aU Pe):=by kernel_rfl
def acX:aj:=(.seq (.ai (rG 274 0)) (.seq (.ai (rG 274 1)) .ret))
def U0:aO:=⟨13,acX,[(.tmp 4)],some ([4],[],[]),false⟩
theorem ans:bz Go.Proofs.Tryz.prog cR 274=some (aU U0):=by kernel_rfl
def acY:aj:=(.seq (.ai (rG 300 0)) (.seq (.ai (rG 300 1)) .ret))
def U1:aO:=⟨9,acY,[(.tmp 4)],some ([4],[(72,.id 72)],[]),false⟩
theorem ant:bz Go.Proofs.Tryz.prog cR 300=some (aU U1):=by kernel_rfl
def acZ:aj:=(.seq (.ai (rG 276 0)) (.seq (.ai (rG 276 1)) .ret))
def U2:aO:=⟨10,acZ,[(.cell 2 .true 3)],some ([2],[(24,.id 24)],[]),false⟩
theorem anu:bz Go.Proofs.Tryz.prog cR 276=some (aU U2):=by kernel_rfl
def ac0:aj:=(.seq (.ai (rG 315 0)) (.seq (.ai (rG 315 1)) .ret))
def U3:aO:=⟨8,ac0,[(.tmp 2)],some ([2],[(56,.id 56)],[]),false⟩
theorem anv:bz Go.Proofs.Tryz.prog cR 315=some (aU U3):=by kernel_rfl
def ac1:aj:=(.keep [0,1,2,7,11,12] [(1,.id 1),(3,.id 3),(2,.id 2),(0,.id 0),(64,.id 64)] [] (.ai (rG 314 8)))
def ac2:aj:=(.ai (rG 314 9))
def ac3:aj:=(.keep [0,1,2,7,11,12] [(1,.id 1),(3,.id 3),(2,.id 2),(0,.id 0),(64,.id 64)] [] (.seq (.block 1 (.seq (.ai (rG 314 4)) (.seq (.ai (rG 314 5)) (.seq (.ai (rG 314 6)) (.cond (.tmp 25) (.ai (rG 314 7)) ac1))))) ac2))
def ac4:aj:=(.keep [0,1,2,7,11,12,13] [(1,.id 1),(3,.id 3),(2,.id 2),(0,.id 0),(64,.id 64)] [] (.seq (.cond (.tmp 13) .skip (.keep [7] [(1,.id 1),(3,.id 3),(2,.id 2),(0,.id 0),(64,.id 64)] [] (.exit 0))) ac3))
def ac5:aj:=(.keep [0,1,2,7,11,12] [(1,.id 1),(3,.id 3),(2,.id 2),(0,.id 0),(64,.id 64)] [] (.seq (.ai (rG 314 3)) ac4))
def ac6:aj:=(.seq (.ai (rG 314 0)) (.seq (.ai (rG 314 1)) (.seq (.seq (.ai (rG 314 2)) (.block 0 (.loop ac5))) (.seq (.ai (rG 314 10)) .ret))))
def Pf:aO:=⟨40,ac6,[(.tmp 6)],some ([6,2000000],[(1,.id 1),(3,.id 3),(2,.id 2),(0,.id 0),(64,.id 64)],[]),false⟩
theorem anw:bz Go.Proofs.Tryz.prog cR 314=some (aU Pf):=by kernel_rfl
def ac7:aj:=(.keep [1,2,3,5,9,10,11] [(0,.id 0),(48,.id 48),(80,.id 80),(88,.id 88)] [] (.seq (.block 1 (.ai (rG 301 4))) (.ai (rG 301 5))))
def ac8:aj:=(.keep [1,2,3,5,9,10,11] [(0,.id 0),(48,.id 48),(80,.id 80),(88,.id 88)] [] (.seq (.seq (.ai (rG 301 3)) (.cond (.tmp 17) .skip (.keep [1,3,5,9,10] [(0,.id 0),(48,.id 48),(80,.id 80),(88,.id 88)] [] (.exit 0)))) ac7))
def ac9:aj:=(.keep [1,5,32,33,34] [(0,.id 0),(48,.id 48),(256,.id 256)] [] (.seq (.block 3 (.seq (.ai (rG 301 9)) (.ai (rG 301 10)))) (.ai (rG 301 11))))
def ac_:aj:=(.keep [1,5,32,33,34,35] [(0,.id 0),(48,.id 48),(256,.id 256)] [] (.seq (.cond (.tmp 35) .skip (.keep [] [(0,.id 0)] [] (.exit 2))) ac9))
def ada:aj:=(.keep [1,5,32,33,34] [(0,.id 0),(48,.id 48),(256,.id 256)] [] (.seq (.ai (rG 301 8)) ac_))
def adb:aj:=(.keep [1,3,5,9,10] [(0,.id 0),(48,.id 48),(80,.id 80),(88,.id 88)] [] (.seq (.ai (rG 301 6)) (.seq (.ai (rG 301 7)) (.block 2 (.loop ada)))))
def ade:aj:=(.seq (.ai (rG 301 0)) (.seq (.ai (rG 301 1)) (.seq (.seq (.ai (rG 301 2)) (.block 0 (.loop ac8))) adb)))
def Pg:aO:=⟨47,ade,[],some ([2000000],[(0,.id 0)],[]),false⟩
theorem anx:bz Go.Proofs.Tryz.prog cR 301=some (aU Pg):=by kernel_rfl
def adf:aj:=(.keep [0,1000001,1000002,1000003] [(0,.id 0),(1,.id 1),(2,.id 2),(3,.id 3)] [] (.eF (rG 273 6) [(4,16),(9,16),(14,16)]))
def aup:aj:=(.cond (.tmp 6) (.seq (.seq (.ai (rG 273 2)) (.cond (.tmp 29) (.seq (.eF (rG 273 3) [(5,11),(5,13)]) (.seq (.ai (rG 273 4)) (.cond (.tmp 54) (.ai (rG 273 5)) .skip))) .skip)) adf) (.seq (.eF (rG 273 7) []) (.cond (.tmp 83) (.ai (rG 273 8)) .skip)))
def adg:aj:=(.seq (.ai (rG 273 0)) (.block 0 (.seq (.eF (rG 273 1) []) aup)))
def U4:aO:=⟨106,adg,[],some ([1000001,1000002,1000003],[(0,.id 0),(1,.id 1),(2,.id 2),(3,.id 3)],[]),false⟩
theorem anz:bz Go.Proofs.Tryz.prog cR 273=some (aU U4):=by kernel_rfl
def adh:aj:=(.keep [0,2,7,8] [(0,.id 0),(48,.id 48)] [] (.seq (.block 1 (.seq (.ai (rG 170 3)) (.seq (.ai (rG 170 4)) (.cond (.tmp 13) (.ai (rG 170 5)) .skip)))) (.ai (rG 170 6))))
def adi:aj:=(.keep [0,2,7,8,9] [(0,.id 0),(48,.id 48)] [] (.seq (.cond (.tmp 9) .skip (.keep [] [(0,.id 0)] [] (.exit 0))) adh))
def adj:aj:=(.keep [0,2,7,8] [(0,.id 0),(48,.id 48)] [] (.seq (.ai (rG 170 2)) adi))
def adk:aj:=(.seq (.ai (rG 170 0)) (.seq (.ai (rG 170 1)) (.block 0 (.loop adj))))
def Ph:aO:=⟨24,adk,[],some ([2000000],[(0,.id 0)],[]),false⟩
theorem anA:bz Go.Proofs.Tryz.prog cR 170=some (aU Ph):=by kernel_rfl
def adl:aj:=(.seq (.ai (rG 277 0)) (.seq (.ai (rG 277 1)) (.seq (.ai (rG 277 2)) (.seq (.seq (.ai (rG 277 3)) (.cond (.tmp 22) (.ai (rG 277 4)) .skip)) (.ai (rG 277 5))))))
def Pj:aO:=⟨31,adl,[],some ([2000000],[(0,.id 0)],[]),false⟩
theorem anB:bz Go.Proofs.Tryz.prog cR 277=some (aU Pj):=by kernel_rfl
def adm:aj:=(.keep [0,1,4,5,1000001,1000002,1000003] [(0,.id 0),(1,.id 1),(2,.id 2),(3,.id 3)] [] (.seq (.eF (rG 246 13) []) (.seq (.ai (rG 246 14)) (.seq (.ai (rG 246 15)) (.cond (.tmp 142) (.ai (rG 246 16)) .skip)))))
def adn:aj:=(.keep [0,1,4,5,1000001,1000002,1000003] [(0,.id 0),(1,.id 1),(2,.id 2),(3,.id 3)] [] (.seq (.seq (.ai (rG 246 11)) (.cond (.tmp 78) (.eF (rG 246 12) [(4,23),(9,23),(14,23),(20,23)]) .skip)) adm))
def ado:aj:=(.keep [0,1,4,5,1000001,1000002,1000003] [(0,.id 0),(1,.id 1),(2,.id 2),(3,.id 3)] [] (.seq (.seq (.ai (rG 246 7)) (.cond (.tmp 69) (.seq (.seq (.ai (rG 246 8)) (.cond (.tmp 72) .ret .skip)) (.seq (.ai (rG 246 9)) (.ai (rG 246 10)))) .skip)) adn))
def adp:aj:=(.keep [0,1,4,5,1000001,1000002,1000003] [(0,.id 0),(1,.id 1),(2,.id 2),(3,.id 3)] [] (.seq (.seq (.ai (rG 246 4)) (.cond (.tmp 54) (.seq (.ai (rG 246 5)) (.ai (rG 246 6))) .skip)) ado))
def adq:aj:=(.keep [0,1,1000001,1000002,1000003] [(0,.id 0),(1,.id 1),(2,.id 2),(3,.id 3)] [] (.seq (.eF (rG 246 2) [(1,7)]) (.seq (.seq (.ai (rG 246 3)) (.cond (.tmp 49) .ret .skip)) adp)))
def adr:aj:=(.seq (.seq (.ai (rG 246 0)) (.cond (.tmp 11) (.eF (rG 246 1) []) .skip)) adq)
def U5:aO:=⟨154,adr,[],some ([1000001,1000002,1000003],[(0,.id 0),(1,.id 1),(2,.id 2),(3,.id 3)],[]),false⟩
theorem anC:bz Go.Proofs.Tryz.prog cR 246=some (aU U5):=by kernel_rfl
def ads:aj:=(.keep [0,6,42,1000001,1000002,1000003] [(0,.id 0),(1,.id 1),(2,.id 2),(3,.id 3)] [] (.cond (.tmp 42) (.seq (.ai (rG 247 9)) (.seq (.ai (rG 247 10)) (.cond (.tmp 49) (.ai (rG 247 11)) .skip))) (.seq (.ai (rG 247 12)) (.cond (.tmp 52) (.ai (rG 247 13)) (.seq (.ai (rG 247 14)) (.cond (.tmp 56) (.ai (rG 247 15)) (.seq (.ai (rG 247 16)) (.cond (.tmp 62) (.ai (rG 247 17)) .skip))))))))
def auq:aj:=(.seq (.ai (rG 247 3)) (.cond (.tmp 17) (.seq (.eF (rG 247 4) []) (.ai (rG 247 5))) (.seq (.seq (.ai (rG 247 6)) (.cond (.tmp 42) .skip (.seq (.ai (rG 247 7)) (.cond (.tmp 42) .skip (.ai (rG 247 8)))))) ads)))
def adt:aj:=(.seq (.ai (rG 247 0)) (.block 0 (.seq (.ai (rG 247 1)) (.cond (.tmp 7) (.ai (rG 247 2)) auq))))
def U6:aO:=⟨68,adt,[],some ([1000001,1000002,1000003],[(0,.id 0),(1,.id 1),(2,.id 2),(3,.id 3)],[]),false⟩
theorem anD:bz Go.Proofs.Tryz.prog cR 247=some (aU U6):=by kernel_rfl
def aur:aj:=(.cond (.tmp 33) (.ai (rG 210 8)) (.seq (.ai (rG 210 9)) (.cond (.tmp 43) (.seq (.ai (rG 210 10)) (.cond (.tmp 54) (.ai (rG 210 11)) .skip)) (.seq (.ai (rG 210 12)) (.cond (.tmp 62) (.ai (rG 210 13)) .skip)))))
def aus:aj:=(.seq (.ai (rG 210 1)) (.cond (.tmp 4) (.ai (rG 210 2)) (.seq (.ai (rG 210 3)) (.cond (.tmp 12) (.ai (rG 210 4)) (.seq (.ai (rG 210 5)) (.cond (.tmp 20) (.ai (rG 210 6)) (.seq (.ai (rG 210 7)) aur)))))))
def adu:aj:=(.seq (.ai (rG 210 0)) (.block 0 aus))
def U7:aO:=⟨74,adu,[],some ([1000001,1000002,1000003],[(0,.id 0),(1,.id 1),(2,.id 2),(3,.id 3)],[]),false⟩
theorem anE:bz Go.Proofs.Tryz.prog cR 210=some (aU U7):=by kernel_rfl
def adv:aj:=(.keep [4,9,30,31,32] [(40,.id 40),(240,.id 240),(224,.id 224),(225,.id 225),(226,.id 226)] [] (.seq (.block 1 (.seq (.ai (rG 161 10)) (.ai (rG 161 11)))) (.ai (rG 161 12))))
def adw:aj:=(.keep [4,9,30,31,32,33] [(40,.id 40),(240,.id 240),(224,.id 224),(225,.id 225),(226,.id 226)] [] (.seq (.cond (.tmp 33) .skip (.keep [4,9] [(40,.id 40),(240,.id 240),(224,.id 224),(225,.id 225),(226,.id 226)] [] (.exit 0))) adv))
def adx:aj:=(.keep [4,9,30,31,32] [(40,.id 40),(240,.id 240),(224,.id 224),(225,.id 225),(226,.id 226)] [] (.seq (.ai (rG 161 9)) adw))
def ady:aj:=(.keep [4,9] [(40,.id 40),(240,.id 240),(224,.id 224),(225,.id 225),(226,.id 226)] [] (.seq (.eF (rG 161 13) [(7,8)]) .ret))
def adz:aj:=(.keep [1,2,4] [(24,.id 24),(40,.id 40)] [] (.seq (.ai (rG 161 7)) (.seq (.seq (.ai (rG 161 8)) (.block 0 (.loop adx))) ady)))
def adA:aj:=(.keep [1,2,4] [(24,.id 24),(40,.id 40)] [.cell 40 2 0 0 1,.cell 40 30 0 0 1,.cell 40 32 0 0 1] (.seq (.seq (.ai (rG 161 4)) (.seq (.ai (rG 161 5)) (.cond (.tmp 22) (.seq (.ai (rG 161 6)) .ret) .skip))) adz))
def adB:aj:=(.seq (.ai (rG 161 0)) (.seq (.seq (.ai (rG 161 1)) (.seq (.ai (rG 161 2)) (.cond (.tmp 15) (.seq (.ai (rG 161 3)) .ret) .skip))) adA))
def U8:aO:=⟨48,adB,[(.cell 4 .true 33),(.tmp 5),(.tmp 6)],some ([4,5,6],[(40,.id 40),(224,.id 224),(225,.id 225),(226,.id 226)],[]),false⟩
theorem anF:bz Go.Proofs.Tryz.prog cR 161=some (aU U8):=by kernel_rfl
def adC:aj:=(.keep [0,5] [(0,.id 0)] [] (.seq (.ai (rG 103 6)) (.seq (.ai (rG 103 7)) (.cond (.tmp 69) (.ai (rG 103 8)) .skip))))
def adD:aj:=(.keep [0,4] [(0,.id 0)] [] (.seq (.ai (rG 103 4)) (.seq (.ai (rG 103 5)) adC)))
def adE:aj:=(.seq (.eF (rG 103 0) [(5,8)]) (.seq (.ai (rG 103 1)) (.seq (.ai (rG 103 2)) (.seq (.ai (rG 103 3)) adD))))
def LJ:aO:=⟨73,adE,[],some ([],[(0,.id 0)],[]),false⟩
theorem anG:bz Go.Proofs.Tryz.prog cR 103=some (aU LJ):=by kernel_rfl
def ayv:aj:=(.cond (.tmp 35) (.ai (rG 60 9)) (.seq (.ai (rG 60 10)) (.cond (.tmp 43) (.ai (rG 60 11)) (.seq (.ai (rG 60 12)) (.cond (.tmp 54) (.eF (rG 60 13) []) (.seq (.ai (rG 60 14)) (.cond (.tmp 69) (.ai (rG 60 15)) .skip)))))))
def anH:aj:=(.keep [0,29,30,31] [(0,.id 0),(168,.id 168)] [] (.seq (.block 1 (.seq (.ai (rG 60 7)) (.block 2 (.seq (.ai (rG 60 8)) ayv)))) (.ai (rG 60 16))))
def anI:aj:=(.keep [0,29,30,31,32] [(0,.id 0),(168,.id 168)] [] (.seq (.cond (.tmp 32) .skip (.keep [] [(0,.id 0)] [] (.exit 0))) anH))
def anJ:aj:=(.keep [0,29,30,31] [(0,.id 0),(168,.id 168)] [] (.seq (.ai (rG 60 6)) anI))
def anK:aj:=(.keep [0,1] [(0,.id 0)] [] (.seq (.ai (rG 60 3)) (.seq (.ai (rG 60 4)) (.seq (.seq (.ai (rG 60 5)) (.block 0 (.loop anJ))) (.seq (.ai (rG 60 17)) .ret)))))
def anL:aj:=(.seq (.ai (rG 60 0)) (.seq (.seq (.ai (rG 60 1)) (.cond (.tmp 12) (.seq (.ai (rG 60 2)) .ret) .skip)) anK))
def c60:aO:=⟨83,anL,[(.tmp 4)],some ([4],[(0,.id 0)],[]),false⟩
theorem aut:bz Go.Proofs.Tryz.prog cR 60=some (aU c60):=by kernel_rfl
def ayw:aj:=(.seq (.seq (.ai (rG 30 16)) (.cond (.tmp 78) (.seq (.ai (rG 30 17)) .ret) .skip)) (.seq (.seq (.ai (rG 30 18)) (.seq (.ai (rG 30 19)) (.cond (.tmp 86) (.ai (rG 30 20)) .skip))) (.seq (.ai (rG 30 21)) .ret)))
def ayx:aj:=(.cond (.tmp 89) (.seq (.eF (rG 30 23) [(4,16),(6,16),(8,16),(10,16),(11,16)]) (.seq (.seq (.ai (rG 30 24)) (.cond (.tmp 108) (.ai (rG 30 25)) .skip)) (.seq (.ai (rG 30 26)) .ret))) .skip)
def ayy:aj:=(.cond (.tmp 47) (.seq (.ai (rG 30 10)) (.seq (.seq (.ai (rG 30 11)) (.cond (.tmp 57) (.ai (rG 30 12)) .skip)) (.seq (.ai (rG 30 13)) .ret))) (.seq (.ai (rG 30 14)) (.cond (.tmp 62) (.seq (.eF (rG 30 15) [(4,13),(6,13),(8,13),(9,13)]) ayw) (.seq (.ai (rG 30 22)) ayx))))
def ayz:aj:=(.cond (.tmp 21) (.seq (.ai (rG 30 4)) .ret) (.seq (.ai (rG 30 5)) (.cond (.tmp 27) (.seq (.ai (rG 30 6)) .ret) (.seq (.ai (rG 30 7)) (.cond (.tmp 37) (.seq (.ai (rG 30 8)) .ret) (.seq (.ai (rG 30 9)) ayy))))))
def anN:aj:=(.seq (.ai (rG 30 0)) (.seq (.ai (rG 30 1)) (.seq (.seq (.ai (rG 30 2)) (.block 0 (.seq (.ai (rG 30 3)) ayz))) (.seq (.ai (rG 30 27)) .ret))))
def c30:aO:=⟨114,anN,[(.tmp 4)],some ([4],[(0,.id 0)],[]),false⟩
theorem auu:bz Go.Proofs.Tryz.prog cR 30=some (aU c30):=by kernel_rfl
def anP:aj:=(.keep [4,8] [(40,.id 40),(168,.id 168)] [] (.seq (.eF (rG 13 8) [(7,8)]) .ret))
def anQ:aj:=(.keep [2,3,4] [(24,.id 24),(32,.id 32),(40,.id 40)] [.cell 40 14 0 0 1,.cell 40 42 0 0 1,.cell 40 44 0 0 1,.cell 40 565 0 0 1,.cell 40 567 0 0 1] (.seq (.ai (rG 13 4)) (.seq (.seq (.ai (rG 13 5)) (.seq (.ai (rG 13 6)) (.cond (.tmp 25) (.seq (.ai (rG 13 7)) .ret) .skip))) anP)))
def anR:aj:=(.seq (.ai (rG 13 0)) (.seq (.seq (.ai (rG 13 1)) (.seq (.ai (rG 13 2)) (.cond (.tmp 13) (.seq (.ai (rG 13 3)) .ret) .skip))) anQ))
def c13:aO:=⟨37,anR,[(.cell 4 .true 613),(.tmp 5),(.tmp 6)],some ([4,5,6],[(40,.id 40)],[]),false⟩
theorem auv:bz Go.Proofs.Tryz.prog cR 13=some (aU c13):=by kernel_rfl
def D7:aj:=(.seq (.ai (rG 127 0)) (.seq (.ai (rG 127 1)) .ret))
def yH:aO:=⟨15,D7,[(.tmp 6)],some ([6],[],[]),false⟩
theorem KN:bz Go.Proofs.Tryz.prog cR 127=some (aU yH):=by kernel_rfl
def adF:aj:=(.keep [0,3,10,11] [(72,.id 72)] [] (.seq (.block 1 (.seq (.ai (rG 128 6)) (.seq (.ai (rG 128 7)) (.seq (.ai (rG 128 8)) (.cond (.tmp 23) (.ai (rG 128 9)) .skip))))) (.ai (rG 128 10))))
def adG:aj:=(.keep [0,3,10,11,12] [(72,.id 72)] [] (.seq (.cond (.tmp 12) .skip (.keep [0,3] [(72,.id 72)] [] (.exit 0))) adF))
def adH:aj:=(.keep [0,3,10,11] [(72,.id 72)] [] (.seq (.ai (rG 128 5)) adG))
def adI:aj:=(.keep [0,3] [(72,.id 72)] [] (.seq (.seq (.ai (rG 128 13)) (.cond (.tmp 33) (.ai (rG 128 14)) .skip)) (.seq (.ai (rG 128 15)) .ret)))
def adJ:aj:=(.keep [0,3] [(72,.id 72)] [] (.seq (.seq (.ai (rG 128 11)) (.cond (.tmp 29) (.ai (rG 128 12)) .skip)) adI))
def adK:aj:=(.keep [0] [] [] (.seq (.ai (rG 128 3)) (.seq (.seq (.ai (rG 128 4)) (.block 0 (.loop adH))) adJ)))
def adM:aj:=(.seq (.ai (rG 128 0)) (.seq (.seq (.ai (rG 128 1)) (.cond (.tmp 7) (.seq (.ai (rG 128 2)) .ret) .skip)) adK))
def U9:aO:=⟨39,adM,[(.tmp 2)],some ([2],[(345,(.slot 2 none))],[]),false⟩
theorem anS:bz Go.Proofs.Tryz.prog cR 128=some (aU U9):=by kernel_rfl
def Ea:aj:=(.seq (.ai (rG 178 0)) (.seq (.ai (rG 178 1)) .ret))
def yJ:aO:=⟨9,Ea,[(.tmp 2)],some ([2],[],[]),false⟩
theorem KQ:bz Go.Proofs.Tryz.prog cR 178=some (aU yJ):=by kernel_rfl
def Eb:aj:=(.keep [0,3,43,44,45] [(352,.id 352)] [] (.seq (.block 1 (.seq (.ai (rG 129 6)) (.seq (.ai (rG 129 7)) (.cond (.tmp 52) (.ai (rG 129 8)) .skip)))) (.ai (rG 129 9))))
def Ec:aj:=(.keep [0,3,43,44,45,46] [(352,.id 352)] [] (.seq (.cond (.tmp 46) .skip (.keep [3] [] [] (.exit 0))) Eb))
def Ed:aj:=(.keep [0,3,43,44,45] [(352,.id 352)] [] (.seq (.ai (rG 129 5)) Ec))
def Ee:aj:=(.keep [0] [] [] (.seq (.ai (rG 129 3)) (.seq (.seq (.ai (rG 129 4)) (.block 0 (.loop Ed))) (.seq (.ai (rG 129 10)) .ret))))
def Ef:aj:=(.seq (.ai (rG 129 0)) (.seq (.seq (.ai (rG 129 1)) (.cond (.tmp 8) (.seq (.ai (rG 129 2)) .ret) .skip)) Ee))
def yK:aO:=⟨57,Ef,[(.tmp 2)],some ([2],[],[]),false⟩
theorem KR:bz Go.Proofs.Tryz.prog cR 129=some (aU yK):=by kernel_rfl
def adN:aj:=(.seq (.ai (rG 134 0)) (.seq (.ai (rG 134 1)) (.seq (.ai (rG 134 2)) .ret)))
def U_:aO:=⟨25,adN,[(.cell 6 .true 33)],some ([6],[(56,.id 56)],[]),false⟩
theorem anT:bz Go.Proofs.Tryz.prog cR 134=some (aU U_):=by kernel_rfl
def adO:aj:=(.seq (.ai (rG 131 0)) (.seq (.ai (rG 131 1)) .ret))
def Va:aO:=⟨11,adO,[(.tmp 4)],some ([4],[],[]),false⟩
theorem anU:bz Go.Proofs.Tryz.prog cR 131=some (aU Va):=by kernel_rfl
def Q8:aj:=(.seq (.ai (rG 179 0)) (.seq (.seq (.ai (rG 179 1)) (.cond (.tmp 4) (.seq (.ai (rG 179 2)) .ret) .skip)) (.seq (.ai (rG 179 3)) .ret)))
def EZ:aO:=⟨8,Q8,[(.tmp 2)],some ([2],[(97,(.slot 2 none))],[]),true⟩
theorem anV:bz Go.Proofs.Tryz.prog cR 179=some (aU EZ):=by kernel_rfl
def D8:aj:=(.keep [1,3,4] [(16,.id 16),(32,.id 32)] [] (.seq (.block 1 (.ai (rG 180 4))) (.ai (rG 180 5))))
def D9:aj:=(.keep [1,3,4] [(16,.id 16),(32,.id 32)] [] (.seq (.seq (.ai (rG 180 3)) (.cond (.tmp 8) .skip (.keep [3] [(32,.id 32)] [] (.exit 0)))) D8))
def D_:aj:=(.seq (.ai (rG 180 0)) (.seq (.ai (rG 180 1)) (.seq (.seq (.ai (rG 180 2)) (.block 0 (.loop D9))) (.seq (.ai (rG 180 6)) .ret))))
def yI:aO:=⟨28,D_,[(.tmp 2)],some ([2],[(32,.id 32)],[]),false⟩
theorem KO:bz Go.Proofs.Tryz.prog cR 180=some (aU yI):=by kernel_rfl
def adP:aj:=(.seq (.ai (rG 182 0)) (.seq (.ai (rG 182 1)) .ret))
def Vb:aO:=⟨7,adP,[(.cell 2 .true 3)],some ([2],[(24,.id 24)],[]),false⟩
theorem anW:bz Go.Proofs.Tryz.prog cR 182=some (aU Vb):=by kernel_rfl
def adQ:aj:=(.seq (.ai (rG 136 0)) (.seq (.eF (rG 136 1) [(1,6)]) (.seq (.ai (rG 136 2)) (.seq (.ai (rG 136 3)) .ret))))
def Vc:aO:=⟨23,adQ,[(.cell 8 .true 33)],some ([8],[(72,.id 72)],[]),false⟩
theorem anX:bz Go.Proofs.Tryz.prog cR 136=some (aU Vc):=by kernel_rfl
def adR:aj:=(.keep [1,2] [(16,.id 16),(24,.id 24)] [.cell 24 2 0 0 1,.cell 24 30 0 0 1,.cell 24 32 0 0 1] (.seq (.seq (.ai (rG 130 3)) (.cond (.tmp 24) (.seq (.eF (rG 130 4) [(2,4)]) (.ai (rG 130 5))) .skip)) (.seq (.ai (rG 130 6)) .ret)))
def adS:aj:=(.seq (.ai (rG 130 0)) (.seq (.seq (.ai (rG 130 1)) (.cond (.tmp 9) (.seq (.ai (rG 130 2)) .ret) .skip)) adR))
def Vd:aO:=⟨49,adS,[(.cell 2 .true 33)],some ([2],[(24,.id 24)],[]),false⟩
theorem anY:bz Go.Proofs.Tryz.prog cR 130=some (aU Vd):=by kernel_rfl
def anZ:aj:=(.keep [2,4,5,6] [(24,.id 24),(40,.id 40)] [] (.seq (.ai (rG 77 18)) (.seq (.ai (rG 77 19)) (.seq (.ai (rG 77 20)) .ret))))
def an0:aj:=(.keep [1,2,4,5] [(24,.id 24),(40,.id 40)] [] (.seq (.ai (rG 77 16)) (.seq (.ai (rG 77 17)) anZ)))
def an1:aj:=(.keep [1,2,4,5] [(24,.id 24),(40,.id 40)] [] (.seq (.seq (.ai (rG 77 14)) (.cond (.tmp 51) (.ai (rG 77 15)) .skip)) an0))
def an2:aj:=(.keep [1,2,4,5] [(24,.id 24),(40,.id 40)] [] (.seq (.seq (.ai (rG 77 9)) (.cond (.tmp 42) (.seq (.seq (.ai (rG 77 10)) (.cond (.tmp 45) (.seq (.ai (rG 77 11)) .ret) .skip)) (.seq (.ai (rG 77 12)) (.ai (rG 77 13)))) .skip)) an1))
def an3:aj:=(.keep [1,2,4,5] [(24,.id 24),(40,.id 40)] [] (.seq (.seq (.ai (rG 77 6)) (.cond (.tmp 31) (.seq (.ai (rG 77 7)) (.ai (rG 77 8))) .skip)) an2))
def an4:aj:=(.keep [1,2,4] [(24,.id 24),(40,.id 40)] [.cell 40 2 0 0 1,.cell 40 30 0 0 1,.cell 40 32 0 0 1] (.seq (.ai (rG 77 3)) (.seq (.seq (.ai (rG 77 4)) (.cond (.tmp 28) (.seq (.ai (rG 77 5)) .ret) .skip)) an3)))
def an5:aj:=(.seq (.ai (rG 77 0)) (.seq (.seq (.ai (rG 77 1)) (.cond (.tmp 8) (.ai (rG 77 2)) .skip)) an4))
def c77:aO:=⟨92,an5,[(.cell 4 .true 33)],some ([4],[(40,.id 40)],[]),false⟩
theorem auw:bz Go.Proofs.Tryz.prog cR 77=some (aU c77):=by kernel_rfl
def an7:aj:=(.keep [2,4,7,35] [(24,.id 24),(40,.id 40)] [.cell 40 2 0 0 1,.cell 40 30 0 0 1,.cell 40 32 0 0 1] (.cond (.tmp 35) (.seq (.ai (rG 78 10)) (.seq (.ai (rG 78 11)) (.cond (.tmp 42) (.ai (rG 78 12)) .skip))) (.seq (.ai (rG 78 13)) (.cond (.tmp 47) (.seq (.ai (rG 78 14)) .ret) (.seq (.ai (rG 78 15)) (.cond (.tmp 53) (.ai (rG 78 16)) (.seq (.ai (rG 78 17)) (.cond (.tmp 56) (.ai (rG 78 18)) .skip))))))))
def ayA:aj:=(.seq (.ai (rG 78 4)) (.cond (.tmp 17) (.seq (.ai (rG 78 5)) (.seq (.ai (rG 78 6)) .ret)) (.seq (.seq (.ai (rG 78 7)) (.cond (.tmp 35) .skip (.seq (.ai (rG 78 8)) (.cond (.tmp 35) .skip (.ai (rG 78 9)))))) an7)))
def an8:aj:=(.seq (.ai (rG 78 19)) .ret)
def an9:aj:=(.seq (.ai (rG 78 0)) (.seq (.seq (.ai (rG 78 1)) (.block 0 (.seq (.ai (rG 78 2)) (.cond (.tmp 8) (.seq (.ai (rG 78 3)) .ret) ayA)))) an8))
def c78:aO:=⟨60,an9,[(.cell 4 .true 33)],some ([4],[(40,.id 40)],[]),false⟩
theorem auy:bz Go.Proofs.Tryz.prog cR 78=some (aU c78):=by kernel_rfl
def aoa:aj:=(.seq (.ai (rG 81 0)) (.seq (.seq (.ai (rG 81 1)) (.cond (.tmp 17) (.seq (.ai (rG 81 2)) .ret) .skip)) (.seq (.ai (rG 81 3)) .ret)))
def c81:aO:=⟨23,aoa,[(.tmp 6)],some ([6],[],[]),false⟩
theorem auz:bz Go.Proofs.Tryz.prog cR 81=some (aU c81):=by kernel_rfl
def aoc:aj:=(.keep [2,3,4] [(24,.id 24),(32,.id 32),(40,.id 40)] [.cell 40 2 0 0 1,.cell 40 30 0 0 1,.cell 40 32 0 0 1] (.ai (rG 32 10)))
def aod:aj:=(.keep [2,3,4,98,99,100] [(24,.id 24),(32,.id 32),(40,.id 40)] [] (.seq (.block 2 (.seq (.ai (rG 32 21)) (.ai (rG 32 22)))) (.ai (rG 32 23))))
def aoe:aj:=(.keep [2,3,4,98,99,100,101] [(24,.id 24),(32,.id 32),(40,.id 40)] [] (.seq (.cond (.tmp 101) .skip (.keep [2,4] [(24,.id 24),(40,.id 40)] [] (.exit 1))) aod))
def aof:aj:=(.keep [2,3,4,98,99,100] [(24,.id 24),(32,.id 32),(40,.id 40)] [] (.seq (.ai (rG 32 20)) aoe))
def aog:aj:=(.keep [2,3,4] [(24,.id 24),(32,.id 32),(40,.id 40)] [] (.seq (.ai (rG 32 19)) (.block 1 (.loop aof))))
def aoh:aj:=(.keep [2,3,4] [(24,.id 24),(32,.id 32),(40,.id 40)] [] (.seq (.ai (rG 32 18)) (.cond (.tmp 96) aog .skip)))
def aoi:aj:=(.keep [2,3,4] [(24,.id 24),(32,.id 32),(40,.id 40)] [] (.seq (.seq (.ai (rG 32 16)) (.cond (.tmp 82) (.seq (.ai (rG 32 17)) .ret) .skip)) aoh))
def aoj:aj:=(.keep [2,3,4] [(24,.id 24),(32,.id 32),(40,.id 40)] [.cell 40 2 0 0 1,.cell 40 30 0 0 1,.cell 40 32 0 0 1] (.seq (.seq (.ai (rG 32 14)) (.cond (.tmp 60) (.seq (.ai (rG 32 15)) .ret) .skip)) aoi))
def auA:aj:=(.cond (.tmp 30) (.seq (.ai (rG 32 9)) (.cond (.tmp 47) aoc .skip)) (.seq (.ai (rG 32 11)) (.cond (.tmp 52) (.seq (.seq (.ai (rG 32 12)) (.cond (.tmp 56) (.seq (.ai (rG 32 13)) .ret) .skip)) aoj) .skip)))
def auB:aj:=(.cond (.tmp 10) (.seq (.ai (rG 32 3)) .ret) (.seq (.ai (rG 32 4)) (.cond (.tmp 16) (.seq (.ai (rG 32 5)) .ret) (.seq (.ai (rG 32 6)) (.cond (.tmp 22) (.seq (.ai (rG 32 7)) .ret) (.seq (.ai (rG 32 8)) auA))))))
def Hf:aj:=(.seq (.ai (rG 32 24)) .ret)
def aok:aj:=(.seq (.ai (rG 32 0)) (.seq (.seq (.ai (rG 32 1)) (.block 0 (.seq (.ai (rG 32 2)) auB))) Hf))
def c32:aO:=⟨112,aok,[(.cell 4 .true 33),(.tmp 5)],some ([4,5],[(40,.id 40)],[]),false⟩
theorem auC:bz Go.Proofs.Tryz.prog cR 32=some (aU c32):=by kernel_rfl
def aom:aj:=(.keep [2,4,6,10,11,12] [(24,.id 24),(40,.id 40)] [] (.seq (.block 1 (.seq (.ai (rG 15 4)) (.seq (.ai (rG 15 5)) (.seq (.ai (rG 15 6)) (.ai (rG 15 7)))))) (.ai (rG 15 8))))
def aon:aj:=(.keep [2,4,6,10,11,12,13] [(24,.id 24),(40,.id 40)] [] (.seq (.cond (.tmp 13) .skip (.keep [2,4,6] [(24,.id 24),(40,.id 40)] [] (.exit 0))) aom))
def aoo:aj:=(.keep [2,4,6,10,11,12] [(24,.id 24),(40,.id 40)] [.cell 40 2 0 0 1,.cell 40 30 0 0 1,.cell 40 32 0 0 1] (.seq (.ai (rG 15 3)) aon))
def aop:aj:=(.seq (.ai (rG 15 0)) (.seq (.ai (rG 15 1)) (.seq (.seq (.ai (rG 15 2)) (.block 0 (.loop aoo))) (.seq (.ai (rG 15 9)) .ret))))
def c15:aO:=⟨28,aop,[(.cell 4 .true 33),(.tmp 5)],some ([4,5],[(40,.id 40)],[]),false⟩
theorem auD:bz Go.Proofs.Tryz.prog cR 15=some (aU c15):=by kernel_rfl
def aoq:aj:=(.keep [0,1,12,13] [] [] (.seq (.block 1 (.seq (.ai (rG 36 5)) (.seq (.eF (rG 36 6) []) (.cond (.tmp 24) (.seq (.ai (rG 36 7)) .ret) .skip)))) (.ai (rG 36 8))))
def aor:aj:=(.keep [0,1,12,13,14] [] [] (.seq (.cond (.tmp 14) .skip (.keep [] [] [] (.exit 0))) aoq))
def aos:aj:=(.keep [0,1,12,13] [] [] (.seq (.ai (rG 36 4)) aor))
def aot:aj:=(.keep [0,1] [] [] (.seq (.seq (.ai (rG 36 3)) (.block 0 (.loop aos))) (.seq (.ai (rG 36 9)) .ret)))
def aou:aj:=(.seq (.ai (rG 36 0)) (.seq (.seq (.ai (rG 36 1)) (.cond (.tmp 10) (.seq (.ai (rG 36 2)) .ret) .skip)) aot))
def YF:aO:=⟨26,aou,[(.tmp 4)],some ([4],[],[]),false⟩
theorem auE:bz Go.Proofs.Tryz.prog cR 36=some (aU YF):=by kernel_rfl
def aov:aj:=(.seq (.ai (rG 33 0)) (.seq (.ai (rG 33 1)) .ret))
def c33:aO:=⟨24,aov,[(.tmp 4)],some ([4],[],[]),false⟩
theorem auF:bz Go.Proofs.Tryz.prog cR 33=some (aU c33):=by kernel_rfl
def aox:aj:=(.seq (.ai (rG 35 0)) (.seq (.ai (rG 35 1)) .ret))
def c35:aO:=⟨10,aox,[(.tmp 4)],some ([4],[],[]),false⟩
theorem auG:bz Go.Proofs.Tryz.prog cR 35=some (aU c35):=by kernel_rfl
def aoz:aj:=(.keep [1,2,15,16,17] [] [] (.seq (.block 1 (.seq (.ai (rG 34 5)) (.seq (.ai (rG 34 6)) (.seq (.ai (rG 34 7)) (.cond (.tmp 30) (.seq (.ai (rG 34 8)) .ret) .skip))))) (.ai (rG 34 9))))
def aoA:aj:=(.keep [1,2,15,16,17,18] [] [] (.seq (.cond (.tmp 18) .skip (.keep [] [] [] (.exit 0))) aoz))
def aoB:aj:=(.keep [1,2,15,16,17] [] [] (.seq (.ai (rG 34 4)) aoA))
def aoC:aj:=(.keep [0,1,2] [] [] (.seq (.seq (.ai (rG 34 3)) (.block 0 (.loop aoB))) (.seq (.ai (rG 34 10)) .ret)))
def aoD:aj:=(.seq (.ai (rG 34 0)) (.seq (.seq (.ai (rG 34 1)) (.cond (.tmp 14) (.seq (.ai (rG 34 2)) .ret) .skip)) aoC))
def YG:aO:=⟨32,aoD,[(.tmp 6)],some ([6],[],[]),false⟩
theorem auH:bz Go.Proofs.Tryz.prog cR 34=some (aU YG):=by kernel_rfl
def aoE:aj:=(.seq (.ai (rG 16 0)) (.seq (.ai (rG 16 1)) .ret))
def c16:aO:=⟨108,aoE,[(.tmp 4)],some ([4],[],[]),false⟩
theorem auI:bz Go.Proofs.Tryz.prog cR 16=some (aU c16):=by kernel_rfl
def awG:aj:=(.keep [2,7,9,37,38] [(64,.id 64),(80,.id 80)] [] (.seq (.block 1 (.seq (.ai (rG 4 7)) (.block 2 (.seq (.ai (rG 4 8)) (.cond (.tmp 41) (.ai (rG 4 9)) (.seq (.ai (rG 4 10)) (.cond (.tmp 50) (.ai (rG 4 11)) (.seq (.ai (rG 4 12)) .ret)))))))) (.ai (rG 4 13))))
def awH:aj:=(.keep [2,7,9,37,38,39] [(64,.id 64),(80,.id 80)] [] (.seq (.cond (.tmp 39) .skip (.keep [2,7,9] [(64,.id 64),(80,.id 80)] [] (.exit 0))) awG))
def awI:aj:=(.keep [2,7,9,37,38] [(64,.id 64),(80,.id 80)] [] (.seq (.ai (rG 4 6)) awH))
def awJ:aj:=(.keep [7,9,11,12,13] [(64,.id 64),(96,.id 96)] [] (.seq (.ai (rG 4 15)) (.seq (.ai (rG 4 16)) .ret)))
def awK:aj:=(.keep [2,7,9] [(64,.id 64),(80,.id 80)] [] (.seq (.eF (rG 4 14) [(0,2),(0,9),(2,9),(4,9)]) awJ))
def awL:aj:=(.keep [2,7] [(64,.id 64)] [] (.seq (.ai (rG 4 4)) (.seq (.seq (.ai (rG 4 5)) (.block 0 (.loop awI))) awK)))
def awM:aj:=(.seq (.ai (rG 4 0)) (.seq (.ai (rG 4 1)) (.seq (.seq (.ai (rG 4 2)) (.cond (.tmp 34) (.seq (.ai (rG 4 3)) .ret) .skip)) awL)))
def c4:aO:=⟨98,awM,[(.tmp 6)],some ([6],[],[]),false⟩
theorem ayB:bz Go.Proofs.Tryz.prog cR 4=some (aU c4):=by kernel_rfl
def az:Nat→Option aO
 | 4=>some c4
 | 11=>some c11
 | 13=>some c13
 | 15=>some c15
 | 16=>some c16
 | 23=>some c23
 | 24=>some Q2
 | 25=>some Q3
 | 26=>some c26
 | 27=>some c27
 | 28=>some c28
 | 29=>some YE
 | 30=>some c30
 | 32=>some c32
 | 33=>some c33
 | 34=>some YG
 | 35=>some c35
 | 36=>some YF
 | 38=>some Q5
 | 44=>some c44
 | 45=>some c45
 | 46=>some c46
 | 47=>some c47
 | 48=>some c48
 | 49=>some c49
 | 52=>some c52
 | 53=>some c53
 | 54=>some c54
 | 55=>some c55
 | 56=>some Q7
 | 57=>some c57
 | 58=>some c58
 | 59=>some c59
 | 60=>some c60
 | 77=>some c77
 | 78=>some c78
 | 81=>some c81
 | 83=>some UE
 | 84=>some c84
 | 89=>some c89
 | 90=>some c90
 | 91=>some vX
 | 92=>some c92
 | 93=>some c93
 | 95=>some c95
 | 96=>some c96
 | 97=>some Yu
 | 98=>some c98
 | 99=>some c99
 | 100=>some UF
 | 101=>some UG
 | 102=>some Pd
 | 103=>some LJ
 | 107=>some UK
 | 127=>some yH
 | 128=>some U9
 | 129=>some yK
 | 130=>some Vd
 | 131=>some Va
 | 134=>some U_
 | 136=>some Vc
 | 146=>some UB
 | 147=>some UD
 | 148=>some Uw
 | 151=>some UA
 | 152=>some Ux
 | 156=>some UH
 | 157=>some UI
 | 158=>some UL
 | 159=>some UM
 | 160=>some UR
 | 161=>some U8
 | 170=>some Ph
 | 178=>some yJ
 | 179=>some EZ
 | 180=>some yI
 | 182=>some Vb
 | 194=>some LH
 | 195=>some UC
 | 198=>some Uz
 | 208=>some UQ
 | 209=>some UW
 | 210=>some U7
 | 232=>some UU
 | 236=>some Uy
 | 239=>some UN
 | 242=>some UO
 | 246=>some U5
 | 247=>some U6
 | 263=>some UT
 | 271=>some UY
 | 272=>some Pe
 | 273=>some U4
 | 274=>some U0
 | 276=>some U2
 | 277=>some Pj
 | 298=>some UX
 | 299=>some UZ
 | 300=>some U1
 | 301=>some Pg
 | 314=>some Pf
 | 315=>some U3
 | _=>none
theorem lg: ∀f fc,az f=some fc→uw Go.Proofs.Tryz.prog cR f fc:=by
 intro f fc h
 unfold az at h
 split at h
 ·cases h;exact aK ayB
 ·cases h;exact al6
 ·cases h;exact aK auv
 ·cases h;exact aK auD
 ·cases h;exact aK auI
 ·cases h;exact aK atL
 ·cases h;exact aK atM
 ·cases h;exact aK atN
 ·cases h;exact aK atS
 ·cases h;exact aK atV
 ·cases h;exact aK auc
 ·cases h;exact aK aue
 ·cases h;exact aK auu
 ·cases h;exact aK auC
 ·cases h;exact aK auF
 ·cases h;exact aK auH
 ·cases h;exact aK auG
 ·cases h;exact aK auE
 ·cases h;exact aK at3
 ·cases h;exact aK atI
 ·cases h;exact aK atJ
 ·cases h;exact aK atK
 ·cases h;exact aK atO
 ·cases h;exact aK atQ
 ·cases h;exact aK atU
 ·cases h;exact aK atW
 ·cases h;exact aK atX
 ·cases h;exact aK at2
 ·cases h;exact aK at8
 ·cases h;exact aK at9
 ·cases h;exact aK aua
 ·cases h;exact aK aub
 ·cases h;exact aK aud
 ·cases h;exact aK aut
 ·cases h;exact aK auw
 ·cases h;exact aK auy
 ·cases h;exact aK auz
 ·cases h;exact aK at4
 ·cases h;exact aK atF
 ·cases h;exact aK atE
 ·cases h;exact aK atH
 ·cases h;exact aK QH
 ·cases h;exact aK atP
 ·cases h;exact aK atT
 ·cases h;exact aK atZ
 ·cases h;exact aK at0
 ·cases h;exact aK at1
 ·cases h;exact aK at5
 ·cases h;exact aK at6
 ·cases h;exact aK amM
 ·cases h;exact aK amR
 ·cases h;exact aK UJ
 ·cases h;exact aK anG
 ·cases h;exact aK ane
 ·cases h;exact aK KN
 ·cases h;exact aK anS
 ·cases h;exact aK KR
 ·cases h;exact aK anY
 ·cases h;exact aK anU
 ·cases h;exact aK anT
 ·cases h;exact aK anX
 ·cases h;exact aK amw
 ·cases h;exact aK amy
 ·cases h;exact aK alk
 ·cases h;exact aK alr
 ·cases h;exact aK alo
 ·cases h;exact aK anb
 ·cases h;exact aK anc
 ·cases h;exact aK anf
 ·cases h;exact aK ang
 ·cases h;exact aK ank
 ·cases h;exact aK anF
 ·cases h;exact aK anA
 ·cases h;exact aK KQ
 ·cases h;exact aK anV
 ·cases h;exact aK KO
 ·cases h;exact aK anW
 ·cases h;exact aK amv
 ·cases h;exact aK amx
 ·cases h;exact aK alq
 ·cases h;exact aK anj
 ·cases h;exact aK ann
 ·cases h;exact aK anE
 ·cases h;exact aK anm
 ·cases h;exact aK alp
 ·cases h;exact aK anh
 ·cases h;exact aK ani
 ·cases h;exact aK anC
 ·cases h;exact aK anD
 ·cases h;exact aK anl
 ·cases h;exact aK anp
 ·cases h;exact aK anr
 ·cases h;exact aK anz
 ·cases h;exact aK ans
 ·cases h;exact aK anu
 ·cases h;exact aK anB
 ·cases h;exact aK ano
 ·cases h;exact aK anq
 ·cases h;exact aK ant
 ·cases h;exact aK anx
 ·cases h;exact aK anw
 ·cases h;exact aK anv
 ·cases h
theorem auJ:az 4=some c4:=rfl
theorem aoF:az 11=some c11:=rfl
theorem aoG:az 13=some c13:=rfl
theorem aoH:az 15=some c15:=rfl
theorem aoI:az 16=some c16:=rfl
theorem aoJ:az 23=some c23:=rfl
theorem aoK:az 24=some Q2:=rfl
theorem aoL:az 25=some Q3:=rfl
theorem aoM:az 26=some c26:=rfl
theorem aoN:az 27=some c27:=rfl
theorem aoO:az 28=some c28:=rfl
theorem aoP:az 29=some YE:=rfl
theorem aoQ:az 30=some c30:=rfl
theorem aoR:az 32=some c32:=rfl
theorem aoS:az 33=some c33:=rfl
theorem aoT:az 34=some YG:=rfl
theorem aoU:az 35=some c35:=rfl
theorem aoV:az 36=some YF:=rfl
theorem Ve:az 38=some Q5:=rfl
theorem aoW:az 44=some c44:=rfl
theorem aoX:az 45=some c45:=rfl
theorem aoY:az 46=some c46:=rfl
theorem aoZ:az 47=some c47:=rfl
theorem ao0:az 48=some c48:=rfl
theorem ao1:az 49=some c49:=rfl
theorem ao2:az 52=some c52:=rfl
theorem ao3:az 53=some c53:=rfl
theorem ao4:az 54=some c54:=rfl
theorem ao5:az 55=some c55:=rfl
theorem ao6:az 56=some Q7:=rfl
theorem ao7:az 57=some c57:=rfl
theorem ao8:az 58=some c58:=rfl
theorem ao9:az 59=some c59:=rfl
theorem ao_:az 60=some c60:=rfl
theorem apa:az 77=some c77:=rfl
theorem apb:az 78=some c78:=rfl
theorem apc:az 81=some c81:=rfl
theorem apd:az 83=some UE:=rfl
theorem ape:az 84=some c84:=rfl
theorem apf:az 89=some c89:=rfl
theorem apg:az 90=some c90:=rfl
theorem KT:az 91=some vX:=rfl
theorem aph:az 92=some c92:=rfl
theorem apj:az 93=some c93:=rfl
theorem apk:az 95=some c95:=rfl
theorem apl:az 96=some c96:=rfl
theorem apm:az 97=some Yu:=rfl
theorem apn:az 98=some c98:=rfl
theorem apo:az 99=some c99:=rfl
theorem afX:az 100=some UF:=rfl
theorem afY:az 101=some UG:=rfl
theorem afZ:az 102=some Pd:=rfl
theorem af0:az 103=some LJ:=rfl
theorem af1:az 107=some UK:=rfl
theorem GP:az 127=some yH:=rfl
theorem af2:az 128=some U9:=rfl
theorem GQ:az 129=some yK:=rfl
theorem af3:az 130=some Vd:=rfl
theorem af4:az 131=some Va:=rfl
theorem af5:az 134=some U_:=rfl
theorem af6:az 136=some Vc:=rfl
theorem af7:az 146=some UB:=rfl
theorem af8:az 147=some UD:=rfl
theorem af9:az 148=some Uw:=rfl
theorem af_:az 151=some UA:=rfl
theorem aga:az 152=some Ux:=rfl
theorem agb:az 156=some UH:=rfl
theorem agc:az 157=some UI:=rfl
theorem agd:az 158=some UL:=rfl
theorem age:az 159=some UM:=rfl
theorem agf:az 160=some UR:=rfl
theorem agh:az 161=some U8:=rfl
theorem agi:az 170=some Ph:=rfl
theorem GR:az 178=some yJ:=rfl
theorem agj:az 179=some EZ:=rfl
theorem GS:az 180=some yI:=rfl
theorem agk:az 182=some Vb:=rfl
theorem agl:az 194=some LH:=rfl
theorem agm:az 195=some UC:=rfl
theorem agn:az 198=some Uz:=rfl
theorem ago:az 208=some UQ:=rfl
theorem agp:az 209=some UW:=rfl
theorem agq:az 210=some U7:=rfl
theorem agr:az 232=some UU:=rfl
theorem ags:az 236=some Uy:=rfl
theorem agt:az 239=some UN:=rfl
theorem agu:az 242=some UO:=rfl
theorem agv:az 246=some U5:=rfl
theorem agw:az 247=some U6:=rfl
theorem agx:az 263=some UT:=rfl
theorem agy:az 271=some UY:=rfl
theorem agz:az 272=some Pe:=rfl
theorem agA:az 273=some U4:=rfl
theorem agB:az 274=some U0:=rfl
theorem agC:az 276=some U2:=rfl
theorem agD:az 277=some Pj:=rfl
theorem agE:az 298=some UX:=rfl
theorem agF:az 299=some UZ:=rfl
theorem agG:az 300=some U1:=rfl
theorem agH:az 301=some Pg:=rfl
theorem agI:az 314=some Pf:=rfl
theorem agJ:az 315=some U3:=rfl
end
noncomputable def libs:List (Nat×(List PV→Option PV)):= [(12,Ja jO),(14,CU gJ),(154,KI oN),(155,KJ ld),(186,zk),(133,Uo)]
noncomputable abbrev bE:cX:=H6 libs
abbrev ZX(d:Nat)(Q:PQ)(c:aj)(k:List It)(st:St):Prop:=ZR (cg az bE (d-1)) Q c k st
theorem dN{d f n:Nat}{fc:aO}{args:List PV}{bs:List cj}{r:PV×List cj}(hd:n≤d)(h: ∀Q:PX→St→Prop,(∀e bX,bh fc bs.length r e bX→Q e bX)→ZX d Q fc.body [] (rX args bs))(hc:az f=some fc)(hz:fc.z=false:=by rfl)(hl:Nat.ble args.length fc.N=true:=by rfl)(hn:Nat.ble 1 n=true:=by rfl):cg az bE d f args bs=some r:=
 k7 hc hz hl (Nat.le_trans (Nat.le_of_ble_eq_true hn) hd) h
end Go.Proofs.YtobkkblijfhpoaaGreatDoor.Pm
