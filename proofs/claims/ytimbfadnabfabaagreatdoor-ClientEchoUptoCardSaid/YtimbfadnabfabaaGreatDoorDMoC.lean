/- The small machine's codes of some functions. Printed by dec.py. -/
import Derived.Test.YtimbfadnabfabaaGreatDoorKrz
import Derived.Test.YtimbfadnabfabaaGreatDoorLib1
import Derived.Test.YtimbfadnabfabaaGreatDoorPgo
import Derived.Test.YtimbfadnabfabaaGreatDoorProg
namespace Go.Proofs.YtimbfadnabfabaaGreatDoor.Pm
set_option maxRecDepth 1000000
set_option maxHeartbeats 20000000
set_option linter.unusedVariables false
abbrev tm(n:Nat):Operand:= .tmp n
abbrev ki(n:Int):Operand:= .const (.int .i64 n)
abbrev po(d:Nat)(o:kA):PO:=⟨some d,o,none⟩
abbrev dI(x:Int):PV:= .d (.int .i64 x)
abbrev dB(b:Bool):PV:= .d (.bool b)
abbrev pt(n:Nat):PV:= .r (.ptr n 0 0)
abbrev u0:Nat→PV:=fun _=> .un
abbrev h0:Nat→cw:=hB fun _=>0
section
variable {γ : dZ} {Q : PX → St → Prop} {k : List It} {st : St} {p : List PO}
theorem zE{i:Nat}(h:ZK γ Q k .normal st)(h0:p.drop i= []:=by kernel_rfl):ZL γ Q k (p.drop i) st:=ajU h0 h
theorem zT{c:Operand}{t e:ak}(h:ZR γ Q t k st)(hc:(b8 st.s c).bool?=some true:=by kernel_rfl):ZR γ Q (.cond c t e) k st:=SP hc h
theorem zF{c:Operand}{t e:ak}(h:ZR γ Q e k st)(hc:(b8 st.s c).bool?=some false:=by kernel_rfl):ZR γ Q (.cond c t e) k st:=SQ hc h
theorem fN{m:Nat}{fc:aK}{r:PV×List bM}{s:St}(h:cN s m fc.res=some r)(he:dV fc.fin st=s:=by kernel_rfl)(hx:Md fc.fin=false:=by kernel_rfl):aU fc m r .normal st:=ajO hx ((congrArg (fun s=>cN s m fc.res) he).trans h)
theorem fR{m:Nat}{fc:aK}{r:PV×List bM}{s:St}(h:cN s m fc.res=some r)(he:dV fc.fin st=s:=by kernel_rfl)(hx:Md fc.fin=false:=by kernel_rfl):aU fc m r .ret st:=je hx ((congrArg (fun s=>cN s m fc.res) he).trans h)
end
abbrev eI:cS Int:=cu .i64
abbrev dL(x:List Int):PV:= .d (.sl x.length (eI.cells x))
abbrev dE{α:Type}(E:cS α)(x:List α):PV:= .d (.sl x.length (E.cells x))
abbrev LP:=List PO
abbrev pg(d g:Nat)(o:kA):PO:=⟨some d,o,some (g,true)⟩
abbrev lf(e a:Nat):kA:= .load false e (.tmp a)
abbrev lt(e a:Nat):kA:= .load true e (.tmp a)
abbrev fd(k a:Nat):kA:= .RZ k (.tmp a)
abbrev ck(a:Nat)(n:Int):kA:= .tH .eql (.tmp a) (.const (.int .i64 n))
abbrev c1(f a:Nat):kA:= .call f [.tmp a]
abbrev PQ:=PX→St→Prop
abbrev FQ(A Q:PQ):Prop:= ∀e bl,A e bl→Q e bl
section
variable {γ : dZ} {Q : PX → St → Prop} {k : List It} {st : St} {p : List PO} {α : Type} {a b r : α} {c : Bool}
theorem sR{c0:ak}(t:Nat)(hS:(bif c then a else b)=r)(ht:a=r→ZR γ Q c0 k (iR st t true))(hf:b=r→ZR γ Q c0 k (iR st t false))(h1:st.s t= .d (.bool c):=by kernel_rfl):ZR γ Q c0 k st:=ajQ t c h1 (fun h=>ht (Aq h hS)) fun h=>hf (Ar h hS)
theorem sL{l:List PO}(t:Nat)(hS:(bif c then a else b)=r)(ht:a=r→ZL γ Q k l (iR st t true))(hf:b=r→ZL γ Q k l (iR st t false))(h1:st.s t= .d (.bool c):=by kernel_rfl):ZL γ Q k l st:=ajV t c h1 (fun h=>ht (Aq h hS)) fun h=>hf (Ar h hS)
variable {gy : List (Nat × Nat)} {acc : List (List (Nat × Bool))}
theorem fG{i:Nat}(h:ZK γ Q k .normal st)(h0:p.drop i= []:=by kernel_rfl)(ha:(gy.all fun x=>apart (acc.getD x.1 []) (acc.getD x.2 []))=true:=by kernel_rfl):ZD γ Q gy k acc (p.drop i) st:=ajS h0 ha h
theorem jw{σ ρ:Type}{H:σ→St→Prop}{X:ρ→PX→St→Prop}{z:ρ}{r:σ⊕ρ}{e:PX}(hS:some (Sum.inr z)=some r)(hQ: ∀e bl,bG H X r e bl→Q e bl)(hne:e≠ .normal:=by intro h;cases h)(h:X z e st:=by show _=_∧_=_;exact ⟨rfl,rfl⟩):Q e st:=dW hS hQ (PU hne h)
theorem mG{σ ρ:Type}{H:σ→St→Prop}{X:ρ→PX→St→Prop}{z:ρ}{r:σ⊕ρ}{e:PX}(hS:some (Sum.inr z)=some r)(hQ: ∀e bl,bG H X r e bl→Q e bl)(hne:e≠ .normal:=by intro h;cases h)(h:X z e st:=by show _=_∧_=_;exact ⟨rfl,by kernel_rfl⟩):Q e st:=dW hS hQ (PU hne h)
variable {H : Nat → cw} {ρ : Nat → PV} {d : Nat}
theorem b_{ρ:Operand→PV}{f:Nat}{xs:List Operand}{l:List PV}{r:PV}(hc:γ f l []=some (r,[]))(hl:gX H (xs.map ρ)=some l:=by kernel_rfl)(hf:((bB (xs.map ρ)).isEmpty || fT r)=true:=by kernel_rfl)(hr:(distinct ((owns r).map (·.1))&&(owns r).all (fun x=>decide (x.1<8)))=true:=by kernel_rfl):az γ H d ρ (.call f xs)=some (Bk H d r,(owns r).map fun x=>nw H (aZ d x.1) x.2):=NS hl hc hf hr
theorem P9{ρ:Operand→PV}{f:Nat}{xs:List Operand}{l:List PV}(ids:List Nat){bt bL:List bM}{r:PV}(hc:γ f l bt=some (r,bL))(hi:fQ H ((xs.map ρ).map qQ)=ids:=by kernel_rfl)(hb:(gN H ids).map (List.map (om ids H))=some bt:=by kernel_rfl)(hl:yh ids H ((xs.map ρ).map qQ)=l:=by kernel_rfl)
  (hr:(decide (bL.length=ids.length)&&decide (ids.length≤8)&&distinct ((cE r bL).map (·.1))&&(cE r bL).all (fun x=>decide (x.1<8)&& !ids.any (Nat.beq (aZ d x.1))))=true:=by kernel_rfl):
  az γ H d ρ (.fU f xs)=some (rM false ids H d r,kn false H ids d ids bL++(cE r bL).map fun x=>nw H (aZ d x.1) x.2):=JP hi hb hl hc hr
theorem wJ{ρ:Operand→PV}{f:Nat}{xs:List Operand}{l:List PV}(ids:List Nat)(bs:List bM){bt bL:List bM}{r:PV}(hc:γ f l bt=some (r,bL))(hs:iz H ids bL=true)(hi:fQ H ((xs.map ρ).map qQ)=ids:=by kernel_rfl)(hb:gN H ids=some bs:=by kernel_rfl)(hl:yh ids H ((xs.map ρ).map qQ)=l:=by kernel_rfl)(ht:bs.map (om ids H)=bt:=by kernel_rfl)
  (yE:xW ids bL=true:=by kernel_rfl) (hr:(decide (ids.length≤8)&&distinct ((cE r bL).map (·.1))&&(cE r bL).all (fun x=>decide (x.1<8)&& !ids.any (Nat.beq (aZ d x.1))))=true:=by kernel_rfl):
  az γ H d ρ (.fU f xs)=some (rM true ids H d r,kn true H ids d ids bL++(cE r bL).map fun x=>nw H (aZ d x.1) x.2):=GF hi hb hl ht hc yE hs hr
theorem lk{p q:PV}{ps qs:List PV}(h2:gX H ps=some qs)(h1:gH H p=some q:=by kernel_rfl):gX H (p::ps)=some (q::qs):=jy h1 h2
end
abbrev S8:=List UInt8
section
variable {γ : dZ} {Q : PX → St → Prop} {k : List It} {st : St} {p : List PO} {b : ak}
theorem zS(h:ZL γ Q (.seq b::k) (p.drop 0) st):ZR γ Q (.seq (.ai p) b) k st:=aC (a_ h)
theorem zK{i:Nat}(h:ZR γ Q b k st)(h0:p.drop i= []:=by kernel_rfl):ZL γ Q (.seq b::k) (p.drop i) st:=zE (cq h) h0
end
abbrev cz:List Nat:= [100014,15,100033,100038,41,42,44,100045,47,49,52,72,74,77,100079,81,89,96,98,100,103,104,100107,100108,100110,112,113,100114,115,116,134,135,139,140,141,142,144,146,149,153,154,200155,155,159,160,178,179,180,181,182,183,184,187,188,189,190,191,196,206,207,209,212,213,215,217,219,221,222,223,224,227,228,229,230,232,239,241,243,244,246,247,249,250,251,252,254,273,100005,300213]
set_option linter.unusedSimpArgs false
structure kf where
 Mode:Int
 FT:Int
 Bq:Int
 oH:S8
 Over:Bool
structure aC9 where
 Kind:Int
 FT:Int
 Bq:Int
 Data:S8
structure az1 where
 gF:kf
 buf:S8
 data:S8
 l:List aC9
structure aS where
 State:Int
 Mark:Int
 Inter:S8
 Args:S8
 Text:S8
structure bA where
 Flags:Int
 dP:Int
 dm:Int
structure ah where
 eB:Int
 bP:bA
structure bS where
 bR:Int
 bW:Int
 Cells:List ah
structure bu where
 Bits:Nat→Int
structure tM where
 Row:Int
 cP:Int
 bP:bA
 Origin:Bool
 bp:Int×Int
 cC:Int
structure bF where
 Cells:List ah
structure aA where
 aG:bS
 Row:Int
 cP:Int
 eK:Bool
 ji:Int
 cT:Int
 bP:bA
 eE:Int
 eU:bu
 bp:Int×Int
 cC:Int
 aI:tM
 aT:bS
 gz:S8
 bn:List bF
structure eL where
 Us:Nat→UInt8
 fX:Nat→UInt8
 yV:Nat→Int
 sr:Nat→Int
structure cA where
 Names:List S8
 At:Int
structure dA where
 Name:S8
 Value:S8
 aaf:Bool
 Set:Bool
structure ic where
 iQ:Nat→UInt8
 qC:Nat→UInt8
structure J0 where
 Bits:Nat→Int
structure su where
 oH:S8
 Quote:Bool
structure bh where
 gF:kf
 Cr:Bool
 Part:S8
 dG:aS
 af:aA
 Neg:eL
 bN:cA
 Vars:List dA
 Keys:ic
 Mask:J0
 gB:su
 kL:Bool
structure eD where
 Name:Int
 eB:Int
 eV:Int
structure eN where
 pK:Int
 cP:Int
 Row:Int
 eV:Int
 Up:Bool
structure iC where
 Kind:Int
 Data:S8
 Key:eD
 oI:eN
 Runes:List Int
 bR:Int
 bW:Int
 Us:Bool
 Bq:Int
 On:Bool
structure bf where
 Client:bh
 sent:S8
structure aM where
 Kind:Int
 Code:Int
 Mark:Int
 Inter:S8
 Args:List Int
 Text:S8
structure ag where
 af:aA
 sent:S8
def cY:cS dA:=⟨4,fun x=> [.str x.Name,.str x.Value,.bool x.aaf,.bool x.Set],fun _=>rfl⟩
def k7:cS bA:=⟨3,fun x=> [.int .i64 x.Flags,.int .i64 x.dP,.int .i64 x.dm],fun _=>rfl⟩
def aj:cS ah:=⟨4,fun x=> [.int .i64 x.eB,.int .i64 x.bP.Flags,.int .i64 x.bP.dP,.int .i64 x.bP.dm],fun _=>rfl⟩
def sw:cS (Int×Int):=⟨2,fun x=> [.int .i64 x.1,.int .i64 x.2],fun _=>rfl⟩
def bE:cS bF:=⟨1,fun x=> [.sl x.Cells.length (aj.cells x.Cells)],fun _=>rfl⟩
def tN:cS bf:=⟨614,fun x=>(.int .i64 x.Client.gF.Mode::(.int .i64 x.Client.gF.FT::(.int .i64 x.Client.gF.Bq::(.str x.Client.gF.oH::(.bool x.Client.gF.Over::(.bool x.Client.Cr::(.str x.Client.Part::(.int .i64 x.Client.dG.State::(.int .i64 x.Client.dG.Mark::(.str x.Client.dG.Inter::(.str x.Client.dG.Args::(.str x.Client.dG.Text::(.int .i64 x.Client.af.aG.bR::(.int .i64 x.Client.af.aG.bW::(.sl x.Client.af.aG.Cells.length (aj.cells x.Client.af.aG.Cells)::(.int .i64 x.Client.af.Row::(.int .i64 x.Client.af.cP::(.bool x.Client.af.eK::(.int .i64 x.Client.af.ji::(.int .i64 x.Client.af.cT::(.int .i64 x.Client.af.bP.Flags::(.int .i64 x.Client.af.bP.dP::(.int .i64 x.Client.af.bP.dm::(.int .i64 x.Client.af.eE::((cu .u64).jX 4 x.Client.af.eU.Bits++(.int .i64 x.Client.af.bp.1::(.int .i64 x.Client.af.bp.2::(.int .i64 x.Client.af.cC::(.int .i64 x.Client.af.aI.Row::(.int .i64 x.Client.af.aI.cP::(.int .i64 x.Client.af.aI.bP.Flags::(.int .i64 x.Client.af.aI.bP.dP::(.int .i64 x.Client.af.aI.bP.dm::(.bool x.Client.af.aI.Origin::(.int .i64 x.Client.af.aI.bp.1::(.int .i64 x.Client.af.aI.bp.2::(.int .i64 x.Client.af.aI.cC::(.int .i64 x.Client.af.aT.bR::(.int .i64 x.Client.af.aT.bW::(.sl x.Client.af.aT.Cells.length (aj.cells x.Client.af.aT.Cells)::(.str x.Client.af.gz::(.sl x.Client.af.bn.length (bE.cells x.Client.af.bn)::(cH.jX 256 x.Client.Neg.Us++(cH.jX 256 x.Client.Neg.fX++((cu .u64).jX 4 x.Client.Neg.yV++((cu .u64).jX 4 x.Client.Neg.sr++(.sl x.Client.bN.Names.length (dN.cells x.Client.bN.Names)::(.int .i64 x.Client.bN.At::(.sl x.Client.Vars.length (cY.cells x.Client.Vars)::(cH.jX 19 x.Client.Keys.iQ++(cH.jX 19 x.Client.Keys.qC++((cu .u64).jX 4 x.Client.Mask.Bits++(.str x.Client.gB.oH::(.bool x.Client.gB.Quote::(.bool x.Client.kL::(.str x.sent:: [])))))))))))))))))))))))))))))))))))))))))))))))))))))))),fun x=>by simp only [List.length_append,List.length_cons,List.length_nil,cS.NQ];rfl⟩
def bD:cS aM:=⟨6,fun x=> [.int .i64 x.Kind,.int .i64 x.Code,.int .i64 x.Mark,.str x.Inter,.sl x.Args.length (eI.cells x.Args),.str x.Text],fun _=>rfl⟩
def BD:cS ag:=⟨34,fun x=>(.int .i64 x.af.aG.bR::(.int .i64 x.af.aG.bW::(.un::(.int .i64 x.af.Row::(.int .i64 x.af.cP::(.bool x.af.eK::(.int .i64 x.af.ji::(.int .i64 x.af.cT::(.int .i64 x.af.bP.Flags::(.int .i64 x.af.bP.dP::(.int .i64 x.af.bP.dm::(.int .i64 x.af.eE::((cu .u64).jX 4 x.af.eU.Bits++(.int .i64 x.af.bp.1::(.int .i64 x.af.bp.2::(.int .i64 x.af.cC::(.int .i64 x.af.aI.Row::(.int .i64 x.af.aI.cP::(.int .i64 x.af.aI.bP.Flags::(.int .i64 x.af.aI.bP.dP::(.int .i64 x.af.aI.bP.dm::(.bool x.af.aI.Origin::(.int .i64 x.af.aI.bp.1::(.int .i64 x.af.aI.bp.2::(.int .i64 x.af.aI.cC::(.int .i64 x.af.aT.bR::(.int .i64 x.af.aT.bW::(.un::(.str x.af.gz::(.un::(.str x.sent:: []))))))))))))))))))))))))))))))),fun x=>by simp only [List.length_append,List.length_cons,List.length_nil,cS.NQ];rfl⟩
def Tb:cS kf:=⟨5,fun x=> [.int .i64 x.Mode,.int .i64 x.FT,.int .i64 x.Bq,.str x.oH,.bool x.Over],fun _=>rfl⟩
def J1:cS aS:=⟨5,fun x=> [.int .i64 x.State,.int .i64 x.Mark,.str x.Inter,.str x.Args,.str x.Text],fun _=>rfl⟩
def J2:cS bS:=⟨3,fun x=> [.int .i64 x.bR,.int .i64 x.bW,.sl x.Cells.length (aj.cells x.Cells)],fun _=>rfl⟩
def NZ:cS tM:=⟨9,fun x=> [.int .i64 x.Row,.int .i64 x.cP,.int .i64 x.bP.Flags,.int .i64 x.bP.dP,.int .i64 x.bP.dm,.bool x.Origin,.int .i64 x.bp.1,.int .i64 x.bp.2,.int .i64 x.cC],fun _=>rfl⟩
def N0:cS cA:=⟨2,fun x=> [.sl x.Names.length (dN.cells x.Names),.int .i64 x.At],fun _=>rfl⟩
def J3:cS su:=⟨2,fun x=> [.str x.oH,.bool x.Quote],fun _=>rfl⟩
def atw:cS eD:=⟨3,fun x=> [.int .i64 x.Name,.int .i64 x.eB,.int .i64 x.eV],fun _=>rfl⟩
def kM(x:aA)(c3 c2 c1:PV):List PV:=((dI x.aG.bR)::((dI x.aG.bW)::(c3::((dI x.Row)::((dI x.cP)::((dB x.eK)::((dI x.ji)::((dI x.cT)::((dI x.bP.Flags)::((dI x.bP.dP)::((dI x.bP.dm)::((dI x.eE)::(((cu .u64).row 4 x.eU.Bits)++((dI x.bp.1)::((dI x.bp.2)::((dI x.cC)::((dI x.aI.Row)::((dI x.aI.cP)::((dI x.aI.bP.Flags)::((dI x.aI.bP.dP)::((dI x.aI.bP.dm)::((dB x.aI.Origin)::((dI x.aI.bp.1)::((dI x.aI.bp.2)::((dI x.aI.cC)::((dI x.aT.bR)::((dI x.aT.bW)::(c2::((.d (.str x.gz))::(c1:: []))))))))))))))))))))))))))))))
def tO(x:bh)(c5 c4 c3 c2 c1:PV):List PV:=((dI x.gF.Mode)::((dI x.gF.FT)::((dI x.gF.Bq)::((.d (.str x.gF.oH))::((dB x.gF.Over)::((dB x.Cr)::((.d (.str x.Part))::((dI x.dG.State)::((dI x.dG.Mark)::((.d (.str x.dG.Inter))::((.d (.str x.dG.Args))::((.d (.str x.dG.Text))::((dI x.af.aG.bR)::((dI x.af.aG.bW)::(c5::((dI x.af.Row)::((dI x.af.cP)::((dB x.af.eK)::((dI x.af.ji)::((dI x.af.cT)::((dI x.af.bP.Flags)::((dI x.af.bP.dP)::((dI x.af.bP.dm)::((dI x.af.eE)::(((cu .u64).row 4 x.af.eU.Bits)++((dI x.af.bp.1)::((dI x.af.bp.2)::((dI x.af.cC)::((dI x.af.aI.Row)::((dI x.af.aI.cP)::((dI x.af.aI.bP.Flags)::((dI x.af.aI.bP.dP)::((dI x.af.aI.bP.dm)::((dB x.af.aI.Origin)::((dI x.af.aI.bp.1)::((dI x.af.aI.bp.2)::((dI x.af.aI.cC)::((dI x.af.aT.bR)::((dI x.af.aT.bW)::(c4::((.d (.str x.af.gz))::(c3::((cH.row 256 x.Neg.Us)++((cH.row 256 x.Neg.fX)++(((cu .u64).row 4 x.Neg.yV)++(((cu .u64).row 4 x.Neg.sr)++(c2::((dI x.bN.At)::(c1::((cH.row 19 x.Keys.iQ)++((cH.row 19 x.Keys.qC)++(((cu .u64).row 4 x.Mask.Bits)++((.d (.str x.gB.oH))::((dB x.gB.Quote)::((dB x.kL):: [])))))))))))))))))))))))))))))))))))))))))))))))))))))))
def GI(x:bf)(c5 c4 c3 c2 c1:PV):List PV:=((dI x.Client.gF.Mode)::((dI x.Client.gF.FT)::((dI x.Client.gF.Bq)::((.d (.str x.Client.gF.oH))::((dB x.Client.gF.Over)::((dB x.Client.Cr)::((.d (.str x.Client.Part))::((dI x.Client.dG.State)::((dI x.Client.dG.Mark)::((.d (.str x.Client.dG.Inter))::((.d (.str x.Client.dG.Args))::((.d (.str x.Client.dG.Text))::((dI x.Client.af.aG.bR)::((dI x.Client.af.aG.bW)::(c5::((dI x.Client.af.Row)::((dI x.Client.af.cP)::((dB x.Client.af.eK)::((dI x.Client.af.ji)::((dI x.Client.af.cT)::((dI x.Client.af.bP.Flags)::((dI x.Client.af.bP.dP)::((dI x.Client.af.bP.dm)::((dI x.Client.af.eE)::(((cu .u64).row 4 x.Client.af.eU.Bits)++((dI x.Client.af.bp.1)::((dI x.Client.af.bp.2)::((dI x.Client.af.cC)::((dI x.Client.af.aI.Row)::((dI x.Client.af.aI.cP)::((dI x.Client.af.aI.bP.Flags)::((dI x.Client.af.aI.bP.dP)::((dI x.Client.af.aI.bP.dm)::((dB x.Client.af.aI.Origin)::((dI x.Client.af.aI.bp.1)::((dI x.Client.af.aI.bp.2)::((dI x.Client.af.aI.cC)::((dI x.Client.af.aT.bR)::((dI x.Client.af.aT.bW)::(c4::((.d (.str x.Client.af.gz))::(c3::((cH.row 256 x.Client.Neg.Us)++((cH.row 256 x.Client.Neg.fX)++(((cu .u64).row 4 x.Client.Neg.yV)++(((cu .u64).row 4 x.Client.Neg.sr)++(c2::((dI x.Client.bN.At)::(c1::((cH.row 19 x.Client.Keys.iQ)++((cH.row 19 x.Client.Keys.qC)++(((cu .u64).row 4 x.Client.Mask.Bits)++((.d (.str x.Client.gB.oH))::((dB x.Client.gB.Quote)::((dB x.Client.kL)::((.d (.str x.sent)):: []))))))))))))))))))))))))))))))))))))))))))))))))))))))))
def l7(x:ag)(c3 c2 c1:PV):List PV:=((dI x.af.aG.bR)::((dI x.af.aG.bW)::(c3::((dI x.af.Row)::((dI x.af.cP)::((dB x.af.eK)::((dI x.af.ji)::((dI x.af.cT)::((dI x.af.bP.Flags)::((dI x.af.bP.dP)::((dI x.af.bP.dm)::((dI x.af.eE)::(((cu .u64).row 4 x.af.eU.Bits)++((dI x.af.bp.1)::((dI x.af.bp.2)::((dI x.af.cC)::((dI x.af.aI.Row)::((dI x.af.aI.cP)::((dI x.af.aI.bP.Flags)::((dI x.af.aI.bP.dP)::((dI x.af.aI.bP.dm)::((dB x.af.aI.Origin)::((dI x.af.aI.bp.1)::((dI x.af.aI.bp.2)::((dI x.af.aI.cC)::((dI x.af.aT.bR)::((dI x.af.aT.bW)::(c2::((.d (.str x.af.gz))::(c1::((.d (.str x.sent)):: [])))))))))))))))))))))))))))))))
def J4(x:aM)(c1:PV):List PV:=((dI x.Kind)::((dI x.Code)::((dI x.Mark)::((.d (.str x.Inter))::(c1::((.d (.str x.Text)):: []))))))
def WK(x:iC)(c1:PV):List PV:=((dI x.Kind)::((.d (.str x.Data))::((dI x.Key.Name)::((dI x.Key.eB)::((dI x.Key.eV)::((dI x.oI.pK)::((dI x.oI.cP)::((dI x.oI.Row)::((dI x.oI.eV)::((dB x.oI.Up)::(c1::((dI x.bR)::((dI x.bW)::((dB x.Us)::((dI x.Bq)::((dB x.On):: []))))))))))))))))
abbrev Tc(x:aA)(i0 i1 i2:Nat):bM:= .box (kM x (.r (.aL i0 0 0 x.aG.Cells.length)) (.r (.aL i1 0 0 x.aT.Cells.length)) (.r (.aL i2 0 0 x.bn.length)))
abbrev aH(x:aA):bM:= .own 87 4 (aj.cells x.aG.Cells)
abbrev aJ(x:aA):bM:= .own 87 4 (aj.cells x.aT.Cells)
abbrev aN(x:aA):bM:= .own 111 1 (bE.cells x.bn)
abbrev iD(x:aA):PV:= .d (.sl x.aG.Cells.length (aj.cells x.aG.Cells))
abbrev DM(x:aA):PV:= .r (.own 0 87 4 x.aG.Cells.length (aj.cells x.aG.Cells))
abbrev jP(x:aA):PV:= .d (.sl x.aT.Cells.length (aj.cells x.aT.Cells))
abbrev DN(x:aA):PV:= .r (.own 1 87 4 x.aT.Cells.length (aj.cells x.aT.Cells))
abbrev fY(x:aA):PV:= .d (.sl x.bn.length (bE.cells x.bn))
abbrev P_(x:aA):PV:= .r (.own 2 111 1 x.bn.length (bE.cells x.bn))
abbrev bK(x:aA):List PV:=kM x (iD x) (jP x) (fY x)
abbrev eX(x:aA):List PV:=kM x (DM x) (DN x) (P_ x)
abbrev bX(x:aA)(i0 ji0 i1 ji1 i2 ji2:Nat):List PV:=kM x (.r (.aL i0 ji0 0 x.aG.Cells.length)) (.r (.aL i1 ji1 0 x.aT.Cells.length)) (.r (.aL i2 ji2 0 x.bn.length))
abbrev yX(h:Nat→cw)(x:aA)(i:Nat)(i0 i1 i2:Nat):Nat→cw:=up (up (up (up h i2 ⟨0,some (aN x)⟩) i1 ⟨0,some (aJ x)⟩) i0 ⟨0,some (aH x)⟩) i ⟨0,some (Tc x i0 i1 i2)⟩
abbrev lQ(x:bh):PV:=(.agg ((dI x.gF.Mode)::((dI x.gF.FT)::((dI x.gF.Bq)::((.d (.str x.gF.oH))::((dB x.gF.Over)::((dB x.Cr)::((.d (.str x.Part))::((dI x.dG.State)::((dI x.dG.Mark)::((.d (.str x.dG.Inter))::((.d (.str x.dG.Args))::((.d (.str x.dG.Text))::((dI x.af.aG.bR)::((dI x.af.aG.bW)::((iD x.af)::((dI x.af.Row)::((dI x.af.cP)::((dB x.af.eK)::((dI x.af.ji)::((dI x.af.cT)::((dI x.af.bP.Flags)::((dI x.af.bP.dP)::((dI x.af.bP.dm)::((dI x.af.eE)::(((cu .u64).row 4 x.af.eU.Bits)++((dI x.af.bp.1)::((dI x.af.bp.2)::((dI x.af.cC)::((dI x.af.aI.Row)::((dI x.af.aI.cP)::((dI x.af.aI.bP.Flags)::((dI x.af.aI.bP.dP)::((dI x.af.aI.bP.dm)::((dB x.af.aI.Origin)::((dI x.af.aI.bp.1)::((dI x.af.aI.bp.2)::((dI x.af.aI.cC)::((dI x.af.aT.bR)::((dI x.af.aT.bW)::((jP x.af)::((.d (.str x.af.gz))::((fY x.af)::((cH.row 256 x.Neg.Us)++((cH.row 256 x.Neg.fX)++(((cu .u64).row 4 x.Neg.yV)++(((cu .u64).row 4 x.Neg.sr)++((dE dN x.bN.Names)::((dI x.bN.At)::((dE cY x.Vars)::((cH.row 19 x.Keys.iQ)++((cH.row 19 x.Keys.qC)++(((cu .u64).row 4 x.Mask.Bits)++((.d (.str x.gB.oH))::((dB x.gB.Quote)::((dB x.kL):: []))))))))))))))))))))))))))))))))))))))))))))))))))))))))
abbrev uT(x:ag):List PV:=((dI x.af.aG.bR)::((dI x.af.aG.bW)::((.r (.aL 1 0 0 x.af.aG.Cells.length))::((dI x.af.Row)::((dI x.af.cP)::((dB x.af.eK)::((dI x.af.ji)::((dI x.af.cT)::((dI x.af.bP.Flags)::((dI x.af.bP.dP)::((dI x.af.bP.dm)::((dI x.af.eE)::(((cu .u64).row 4 x.af.eU.Bits)++((dI x.af.bp.1)::((dI x.af.bp.2)::((dI x.af.cC)::((dI x.af.aI.Row)::((dI x.af.aI.cP)::((dI x.af.aI.bP.Flags)::((dI x.af.aI.bP.dP)::((dI x.af.aI.bP.dm)::((dB x.af.aI.Origin)::((dI x.af.aI.bp.1)::((dI x.af.aI.bp.2)::((dI x.af.aI.cC)::((dI x.af.aT.bR)::((dI x.af.aT.bW)::((.r (.aL 2 0 0 x.af.aT.Cells.length))::((.d (.str x.af.gz))::((.r (.aL 3 0 0 x.af.bn.length))::((.d (.str x.sent)):: [])))))))))))))))))))))))))))))))
abbrev ek(x:ag):bM:=(.box (l7 x (.r (.aL 1 0 0 x.af.aG.Cells.length)) (.r (.aL 2 0 0 x.af.aT.Cells.length)) (.r (.aL 3 0 0 x.af.bn.length))))
abbrev kN(x:ag):Nat→cw:=(up (up (up (up h0 3 ⟨1,some (aN x.af)⟩) 2 ⟨1,some (aJ x.af)⟩) 1 ⟨1,some (aH x.af)⟩) 0 ⟨0,some (.box (l7 x (.r (.aL 1 1 0 x.af.aG.Cells.length)) (.r (.aL 2 1 0 x.af.aT.Cells.length)) (.r (.aL 3 1 0 x.af.bn.length))))⟩)
abbrev nt:cw:=⟨0,some (.box (kM (aA.mk (bS.mk 0 0 ([])) 0 0 false 0 0 (bA.mk 0 0 0) 0 (bu.mk (fun _=>0)) (0,0) 0 (tM.mk 0 0 (bA.mk 0 0 0) false (0,0) 0) (bS.mk 0 0 ([])) ([]) ([])) (.d (.sl ([]:List ah).length (aj.cells ([])))) (.d (.sl ([]:List ah).length (aj.cells ([])))) (.d (.sl ([]:List bF).length (bE.cells ([]))))))⟩
abbrev wK(x:bf):bM:=(.box (GI x (iD x.Client.af) (jP x.Client.af) (fY x.Client.af) (dE dN x.Client.bN.Names) (dE cY x.Client.Vars)))
abbrev uU(x:ag):List PV:=((dI x.af.aG.bR)::((dI x.af.aG.bW)::((.r (.aL 1 1 0 x.af.aG.Cells.length))::((dI x.af.Row)::((dI x.af.cP)::((dB x.af.eK)::((dI x.af.ji)::((dI x.af.cT)::((dI x.af.bP.Flags)::((dI x.af.bP.dP)::((dI x.af.bP.dm)::((dI x.af.eE)::(((cu .u64).row 4 x.af.eU.Bits)++((dI x.af.bp.1)::((dI x.af.bp.2)::((dI x.af.cC)::((dI x.af.aI.Row)::((dI x.af.aI.cP)::((dI x.af.aI.bP.Flags)::((dI x.af.aI.bP.dP)::((dI x.af.aI.bP.dm)::((dB x.af.aI.Origin)::((dI x.af.aI.bp.1)::((dI x.af.aI.bp.2)::((dI x.af.aI.cC)::((dI x.af.aT.bR)::((dI x.af.aT.bW)::((.r (.aL 2 1 0 x.af.aT.Cells.length))::((.d (.str x.af.gz))::((.r (.aL 3 1 0 x.af.bn.length))::((.d (.str x.sent)):: [])))))))))))))))))))))))))))))))
abbrev q8_(x:bh):PV:=(.agg ((dI x.gF.Mode)::((dI x.gF.FT)::((dI x.gF.Bq)::((.d (.str x.gF.oH))::((dB x.gF.Over)::((dB x.Cr)::((.d (.str x.Part))::((dI x.dG.State)::((dI x.dG.Mark)::((.d (.str x.dG.Inter))::((.d (.str x.dG.Args))::((.d (.str x.dG.Text))::((dI x.af.aG.bR)::((dI x.af.aG.bW)::((iD x.af)::((dI x.af.Row)::((dI x.af.cP)::((dB x.af.eK)::((dI x.af.ji)::((dI x.af.cT)::((dI x.af.bP.Flags)::((dI x.af.bP.dP)::((dI x.af.bP.dm)::((dI x.af.eE)::(((cu .u64).row 4 x.af.eU.Bits)++((dI x.af.bp.1)::((dI x.af.bp.2)::((dI x.af.cC)::((dI x.af.aI.Row)::((dI x.af.aI.cP)::((dI x.af.aI.bP.Flags)::((dI x.af.aI.bP.dP)::((dI x.af.aI.bP.dm)::((dB x.af.aI.Origin)::((dI x.af.aI.bp.1)::((dI x.af.aI.bp.2)::((dI x.af.aI.cC)::((dI x.af.aT.bR)::((dI x.af.aT.bW)::((jP x.af)::((.d (.str x.af.gz))::((fY x.af)::((cH.row 256 x.Neg.Us)++((cH.row 256 (upd (upd x.Neg.fX 1 1) 1 0))++(((cu .u64).row 4 x.Neg.yV)++(((cu .u64).row 4 x.Neg.sr)++((dE dN x.bN.Names)::((dI x.bN.At)::((dE cY x.Vars)::((cH.row 19 x.Keys.iQ)++((cH.row 19 x.Keys.qC)++(((cu .u64).row 4 x.Mask.Bits)++((.d (.str x.gB.oH))::((dB x.gB.Quote)::((dB false):: []))))))))))))))))))))))))))))))))))))))))))))))))))))))))
abbrev q9_(x:bh):PV:=(.agg ((dI x.gF.Mode)::((dI x.gF.FT)::((dI x.gF.Bq)::((.d (.str x.gF.oH))::((dB x.gF.Over)::((dB x.Cr)::((.d (.str x.Part))::((dI x.dG.State)::((dI x.dG.Mark)::((.d (.str x.dG.Inter))::((.d (.str x.dG.Args))::((.d (.str x.dG.Text))::((dI x.af.aG.bR)::((dI x.af.aG.bW)::((iD x.af)::((dI x.af.Row)::((dI x.af.cP)::((dB x.af.eK)::((dI x.af.ji)::((dI x.af.cT)::((dI x.af.bP.Flags)::((dI x.af.bP.dP)::((dI x.af.bP.dm)::((dI x.af.eE)::(((cu .u64).row 4 x.af.eU.Bits)++((dI x.af.bp.1)::((dI x.af.bp.2)::((dI x.af.cC)::((dI x.af.aI.Row)::((dI x.af.aI.cP)::((dI x.af.aI.bP.Flags)::((dI x.af.aI.bP.dP)::((dI x.af.aI.bP.dm)::((dB x.af.aI.Origin)::((dI x.af.aI.bp.1)::((dI x.af.aI.bp.2)::((dI x.af.aI.cC)::((dI x.af.aT.bR)::((dI x.af.aT.bW)::((jP x.af)::((.d (.str x.af.gz))::((fY x.af)::((cH.row 256 x.Neg.Us)++((cH.row 256 (upd x.Neg.fX 1 1))++(((cu .u64).row 4 x.Neg.yV)++(((cu .u64).row 4 x.Neg.sr)++((dE dN x.bN.Names)::((dI x.bN.At)::((dE cY x.Vars)::((cH.row 19 x.Keys.iQ)++((cH.row 19 x.Keys.qC)++(((cu .u64).row 4 x.Mask.Bits)++((.d (.str x.gB.oH))::((dB x.gB.Quote)::((dB false):: []))))))))))))))))))))))))))))))))))))))))))))))))))))))))
abbrev sx(x:aS):List PV:=((dI x.State)::((dI x.Mark)::((.d (.str x.Inter))::((.d (.str x.Args))::((.d (.str x.Text)):: [])))))
abbrev akh(x:aA):PV:=(.agg ((dI x.aG.bR)::((dI x.aG.bW)::((DM x)::((dI x.Row)::((dI x.cP)::((dB x.eK)::((dI x.ji)::((dI x.cT)::((dI x.bP.Flags)::((dI x.bP.dP)::((dI x.bP.dm)::((dI x.eE)::(((cu .u64).row 4 x.eU.Bits)++((dI x.bp.1)::((dI x.bp.2)::((dI x.cC)::((dI x.aI.Row)::((dI x.aI.cP)::((dI x.aI.bP.Flags)::((dI x.aI.bP.dP)::((dI x.aI.bP.dm)::((dB x.aI.Origin)::((dI x.aI.bp.1)::((dI x.aI.bp.2)::((dI x.aI.cC)::((dI x.aT.bR)::((dI x.aT.bW)::((DN x)::((.d (.str x.gz))::(.nil:: [])))))))))))))))))))))))))))))))
abbrev jY(x:ag):Nat→cw:=(up (up (up (up (up h0 226 ⟨0,some (aN x.af)⟩) 225 ⟨0,some (aJ x.af)⟩) 224 ⟨0,some (aH x.af)⟩) 240 ⟨0,some (.box (l7 x (.r (.aL 224 0 0 x.af.aG.Cells.length)) (.r (.aL 225 0 0 x.af.aT.Cells.length)) (.r (.aL 226 0 0 x.af.bn.length))))⟩) 40 nt)
abbrev aag(x:aA):Nat→cw:=(up (up (up h0 3 ⟨0,some (aN x)⟩) 2 ⟨0,some (aJ x)⟩) 1 ⟨0,some (aH x)⟩)
abbrev aah(x:kf):List PV:=((dI x.Mode)::((dI x.FT)::((dI x.Bq)::((.d (.str x.oH))::((dB x.Over):: [])))))
abbrev sy(x:bS):List PV:=((dI x.bR)::((dI x.bW)::((dE aj x.Cells):: [])))
abbrev J5(x:ah):List PV:=((dI x.eB)::((dI x.bP.Flags)::((dI x.bP.dP)::((dI x.bP.dm):: []))))
abbrev yY(x:bA):cw:=⟨0,some (.box ((dI x.Flags)::((dI x.dP)::((dI x.dm):: []))))⟩
abbrev l8(x:ag):bM:=(.box (l7 x (.r (.aL 1 1 0 x.af.aG.Cells.length)) (.r (.aL 2 1 0 x.af.aT.Cells.length)) (.r (.aL 3 1 0 x.af.bn.length))))
abbrev lB:cw:=⟨0,some (.box (tO (bh.mk (kf.mk 0 0 0 ([]) false) false ([]) (aS.mk 0 0 ([]) ([]) ([])) (aA.mk (bS.mk 0 0 ([])) 0 0 false 0 0 (bA.mk 0 0 0) 0 (bu.mk (fun _=>0)) (0,0) 0 (tM.mk 0 0 (bA.mk 0 0 0) false (0,0) 0) (bS.mk 0 0 ([])) ([]) ([])) (eL.mk (fun _=>0) (fun _=>0) (fun _=>0) (fun _=>0)) (cA.mk ([]) 0) ([]) (ic.mk (fun _=>0) (fun _=>0)) (J0.mk (fun _=>0)) (su.mk ([]) false) false) (.d (.sl ([]:List ah).length (aj.cells ([])))) (.d (.sl ([]:List ah).length (aj.cells ([])))) (.d (.sl ([]:List bF).length (bE.cells ([])))) (.d (.sl ([]:List S8).length (dN.cells ([])))) (.d (.sl ([]:List dA).length (cY.cells ([]))))))⟩
abbrev J6(x:eN):Nat→cw:=(up h0 24 ⟨0,some (.box ((dI x.pK)::((dI x.cP)::((dI x.Row)::((dI x.eV)::((dB x.Up):: []))))))⟩)
abbrev aai(x:eD):PV:=(.agg ((dI 2)::((.d (.str ([])))::((dI x.Name)::((dI x.eB)::((dI x.eV)::((dI 0)::((dI 0)::((dI 0)::((dI 0)::((dB false)::(.nil::((dI 0)::((dI 0)::((dB false)::((dI 0)::((dB false):: [])))))))))))))))))
abbrev N1(x:aM):PV:=(.agg ((dI x.Kind)::((dI x.Code)::((dI x.Mark)::((.d (.str x.Inter))::((dL x.Args)::((.d (.str x.Text)):: [])))))))
abbrev DO:List PV:=((dI 0)::((dI 0)::((.d (.str ([])))::((.d (.str ([])))::((.d (.str ([]))):: [])))))
abbrev aC_(x:ag):ag:=(ag.mk ({x.af with Row:=(if (IntKind.i64.wrap (x.af.aG.bW-1))<x.af.aI.Row then (IntKind.i64.wrap (x.af.aG.bW-1)) else x.af.aI.Row),bP:=x.af.aI.bP,bp:=x.af.aI.bp,cC:=x.af.aI.cC}) x.sent)
abbrev BF(x:bA):PV:=(.agg ((dI x.Flags)::((dI x.dP)::((dI x.dm):: []))))
abbrev DR(x:eD):cw:=⟨0,some (.box ((dI x.Name)::((dI x.eB)::((dI x.eV):: []))))⟩
abbrev BG(x:eL):PV:=(.agg ((cH.row 256 x.Us)++((cH.row 256 x.fX)++ [])))
abbrev aki(x:bh):cw:=⟨0,some (.box (tO x (iD x.af) (jP x.af) (fY x.af) (dE dN x.bN.Names) (dE cY x.Vars)))⟩
abbrev ku(x:aA):cw:=⟨0,some (.box (kM x (.r (.aL 72 0 0 x.aG.Cells.length)) (.r (.aL 96 0 0 x.aT.Cells.length)) (fY x)))⟩
abbrev Td(x:aA):Nat→PV:=(up (up (up (up u0 1000003 .un) 1000002 .un) 1000001 .un) 5 (dI (IntKind.i64.wrap (x.aG.bR-1))))
abbrev ax3(x:iC):PV:=(.agg ((dI x.Kind)::((.d (.str x.Data))::((dI x.Key.Name)::((dI x.Key.eB)::((dI x.Key.eV)::((dI x.oI.pK)::((dI x.oI.cP)::((dI x.oI.Row)::((dI x.oI.eV)::((dB x.oI.Up)::((dL x.Runes)::((dI x.bR)::((dI x.bW)::((dB x.Us)::((dI x.Bq)::((dB x.On):: [])))))))))))))))))
abbrev Te(x:dA):List PV:=((.d (.str x.Name))::((.d (.str x.Value))::((dB x.aaf)::((dB x.Set):: []))))
abbrev N2(x:cA):Nat→cw:=(up h0 16 ⟨0,some (.box ((dE dN x.Names)::((dI x.At):: [])))⟩)
abbrev Tf(x:ic):Nat→cw:=(up h0 16 ⟨0,some (.box ((cH.row 19 x.iQ)++((cH.row 19 x.qC)++ [])))⟩)
abbrev lD(x:eD):PV:=(.agg ((dI 2)::((.d (.str ([])))::((dI x.Name)::((dI x.eB)::((dI x.eV)::((dI 0)::((dI 0)::((dI 0)::((dI 0)::((dB false)::((.d (.sl ([]:List Int).length (eI.cells ([]))))::((dI 0)::((dI 0)::((dB false)::((dI 0)::((dB false):: [])))))))))))))))))
abbrev lF(x:ag):bM:=(.box (l7 x (.r (.aL 1 0 0 x.af.aG.Cells.length)) (.r (.aL 2 0 0 x.af.aT.Cells.length)) .nil))
noncomputable section
noncomputable def WL:ak→List (List PO)
 | .ai p=> [p]
 | .cU p _=> [p]
 | .seq a b=>WL a++WL b
 | .cond _ a b=>WL a++WL b
 | .block _ a=>WL a
 | .loop a=>WL a
 | _=> []
noncomputable def rG(f i:Nat):LP:=match aW Go.Proofs.Tryz.prog cz f with
 | some c=>(WL c.body).getD i []
 | none=> []
def akj:ak:=(.keep [1,3,4] [(16,.id 16)] [] (.seq (.seq (.ai (rG 19 6)) (.cond (.tmp 41) (.ai (rG 19 7)) (.ai (rG 19 8)))) (.seq (.seq (.ai (rG 19 9)) (.cond (.tmp 86) (.seq (.ai (rG 19 10)) .ret) .skip)) (.seq (.ai (rG 19 11)) .ret))))
def akk:ak:=(.keep [1,3,4] [(16,.id 16)] [] (.seq (.seq (.ai (rG 19 3)) (.cond (.tmp 23) (.ai (rG 19 4)) (.ai (rG 19 5)))) akj))
def akl:ak:=(.keep [1,3] [(16,.id 16)] [] (.seq (.ai (rG 19 2)) akk))
def akm:ak:=(.seq (.ai (rG 19 0)) (.seq (.ai (rG 19 1)) akl))
def c19:aK:=⟨87,akm,[(.tmp 2)],some ([2],[],[]),false⟩
theorem atx:aW Go.Proofs.Tryz.prog cz 19=some (aP c19):=by kernel_rfl
def aty:ak:=(.seq (.ai (rG 104 0)) (.cond (.tmp 7) (.seq (.cU (rG 104 1) [(4,11)]) (.ai (rG 104 2))) .skip))
def ax4:aK:=⟨26,aty,[],some ([1000001,1000002,1000003],[(0,.id 0),(1,.id 1),(2,.id 2),(3,.id 3)],[.cell 0 6 2 5 1]),false⟩
theorem akn:aW Go.Proofs.Tryz.prog cz 104=some (aP ax4):=by kernel_rfl
def atz:ak:=(.seq (.ai (rG 140 0)) (.seq (.ai (rG 140 1)) (.cU (rG 140 2) [(4,6)])))
def ax5:aK:=⟨16,atz,[],some ([1000001,1000002,1000003],[(0,.id 0),(1,.id 1),(2,.id 2),(3,.id 3)],[]),false⟩
theorem ako:aW Go.Proofs.Tryz.prog cz 140=some (aP ax5):=by kernel_rfl
def atA:ak:=(.cond (.tmp 13) (.ai (rG 139 2)) (.seq (.ai (rG 139 3)) (.cond (.tmp 26) (.ai (rG 139 4)) (.seq (.ai (rG 139 5)) (.cond (.tmp 39) (.ai (rG 139 6)) (.seq (.ai (rG 139 7)) (.cond (.tmp 46) (.ai (rG 139 8)) (.ai (rG 139 9)))))))))
def atB:ak:=(.seq (.ai (rG 139 0)) (.block 0 (.seq (.ai (rG 139 1)) atA)))
def ax6:aK:=⟨54,atB,[],some ([1000001,1000002,1000003],[(0,.id 0),(1,.id 1),(2,.id 2),(3,.id 3)],[]),false⟩
theorem akp:aW Go.Proofs.Tryz.prog cz 139=some (aP ax6):=by kernel_rfl
def atC:ak:=(.keep [0,1,1000001,1000002,1000003] [(0,.id 0),(1,.id 1),(2,.id 2),(3,.id 3)] [.cell 0 5 1 5 1] (.seq (.ai (rG 141 2)) (.cond (.tmp 22) (.ai (rG 141 3)) .skip)))
def atD:ak:=(.seq (.seq (.ai (rG 141 0)) (.cond (.tmp 9) (.ai (rG 141 1)) .skip)) atC)
def ax7:aK:=⟨33,atD,[],some ([1000001,1000002,1000003],[(0,.id 0),(1,.id 1),(2,.id 2),(3,.id 3)],[]),false⟩
theorem akq:aW Go.Proofs.Tryz.prog cz 141=some (aP ax7):=by kernel_rfl
def atE:ak:=(.keep [0,1000001,1000002,1000003] [(0,.id 0),(1,.id 1),(2,.id 2),(3,.id 3)] [] (.ai (rG 142 5)))
def atF:ak:=(.seq (.block 0 (.seq (.ai (rG 142 0)) (.cond (.tmp 14) (.ai (rG 142 1)) (.seq (.ai (rG 142 2)) (.cond (.tmp 32) (.cU (rG 142 3) []) (.ai (rG 142 4))))))) atE)
def ax8:aK:=⟨55,atF,[],some ([1000001,1000002,1000003],[(0,.id 0),(2,.id 2),(3,.id 3),(1,.id 1)],[]),false⟩
theorem akr:aW Go.Proofs.Tryz.prog cz 142=some (aP ax8):=by kernel_rfl
def atG:ak:=(.cond (.tmp 76) (.seq (.ai (rG 103 13)) (.cond (.tmp 79) (.ai (rG 103 14)) (.ai (rG 103 15)))) (.seq (.ai (rG 103 16)) (.cond (.tmp 10) (.seq (.ai (rG 103 17)) (.ai (rG 103 18))) (.ai (rG 103 19)))))
def atH:ak:=(.cond (.tmp 39) (.ai (rG 103 6)) (.seq (.ai (rG 103 7)) (.cond (.tmp 44) (.seq (.ai (rG 103 8)) (.ai (rG 103 9))) (.seq (.ai (rG 103 10)) (.cond (.tmp 64) (.ai (rG 103 11)) (.seq (.ai (rG 103 12)) atG))))))
def atI:ak:=(.seq (.ai (rG 103 0)) (.block 0 (.seq (.ai (rG 103 1)) (.cond (.tmp 21) (.seq (.ai (rG 103 2)) (.cond (.tmp 24) (.ai (rG 103 3)) (.ai (rG 103 4)))) (.seq (.ai (rG 103 5)) atH)))))
def ax9:aK:=⟨87,atI,[],some ([1000001,1000002,1000003],[(0,.id 0),(1,.id 1),(2,.id 2),(3,.id 3)],[.cell 0 5 1 5 1]),false⟩
theorem aks:aW Go.Proofs.Tryz.prog cz 103=some (aP ax9):=by kernel_rfl
def az4:ak:=(.keep [1,4,8,23,24] [(40,.id 40),(176,.id 176),(160,.id 160),(449,.id 449),(450,.id 450)] [] (.seq (.block 1 (.seq (.ai (rG 71 7)) (.ai (rG 71 8)))) (.ai (rG 71 9))))
def az5:ak:=(.keep [1,4,8,23,24,25] [(40,.id 40),(176,.id 176),(160,.id 160),(449,.id 449),(450,.id 450)] [] (.seq (.cond (.tmp 25) .skip (.keep [4,8] [(40,.id 40),(176,.id 176),(160,.id 160),(449,.id 449),(450,.id 450)] [] (.exit 0))) az4))
def az6:ak:=(.keep [1,4,8,23,24] [(40,.id 40),(176,.id 176),(160,.id 160),(449,(.cell 176 6)),(450,(.cell 176 7))] [.cell 176 6 449 5 1,.cell 176 7 450 151 4] (.seq (.ai (rG 71 6)) az5))
def az7:ak:=(.keep [4,8] [(40,.id 40),(176,.id 176),(160,.id 160),(449,.id 449),(450,.id 450)] [] (.seq (.ai (rG 71 10)) (.seq (.ai (rG 71 11)) (.seq (.cU (rG 71 12) [(7,8)]) .ret))))
def az8:ak:=(.keep [1,2,4] [(24,.id 24),(40,.id 40)] [] (.seq (.ai (rG 71 4)) (.seq (.seq (.ai (rG 71 5)) (.block 0 (.loop az6))) az7)))
def az9:ak:=(.seq (.ai (rG 71 0)) (.seq (.seq (.ai (rG 71 1)) (.seq (.ai (rG 71 2)) (.cond (.tmp 13) (.seq (.ai (rG 71 3)) .ret) .skip))) az8))
def c71:aK:=⟨52,az9,[(.cell 4 .true 5),(.tmp 5),(.tmp 6)],some ([4,5,6],[(40,.id 40),(451,(.slot 5 none))],[]),false⟩
theorem aaj:aW Go.Proofs.Tryz.prog cz 71=some (aP c71):=by kernel_rfl
def akt:ak:=(.seq (.ai (rG 51 0)) (.seq (.ai (rG 51 1)) .ret))
def c51:aK:=⟨13,akt,[(.tmp 2)],some ([2],[],[]),false⟩
theorem atK:aW Go.Proofs.Tryz.prog cz 51=some (aP c51):=by kernel_rfl
def aku:ak:=(.keep [0,1,7,8] [] [] (.seq (.block 1 (.seq (.ai (rG 84 3)) (.seq (.ai (rG 84 4)) (.cond (.tmp 16) (.seq (.ai (rG 84 5)) .ret) .skip)))) (.ai (rG 84 6))))
def akv:ak:=(.keep [0,1,7,8,9] [] [] (.seq (.cond (.tmp 9) .skip (.keep [] [] [] (.exit 0))) aku))
def akw:ak:=(.keep [0,1,7,8] [] [] (.seq (.ai (rG 84 2)) akv))
def akx:ak:=(.seq (.ai (rG 84 0)) (.seq (.seq (.ai (rG 84 1)) (.block 0 (.loop akw))) (.seq (.ai (rG 84 7)) .ret)))
def WM:aK:=⟨19,akx,[(.tmp 4)],some ([4],[],[]),false⟩
theorem atL:aW Go.Proofs.Tryz.prog cz 84=some (aP WM):=by kernel_rfl
def aky:ak:=(.seq (.ai (rG 50 0)) (.seq (.ai (rG 50 1)) .ret))
def c50:aK:=⟨9,aky,[(.tmp 4)],some ([4],[],[]),false⟩
theorem atN:aW Go.Proofs.Tryz.prog cz 50=some (aP c50):=by kernel_rfl
def akz:ak:=(.keep [0,1,5,7,8,1000000] [(0,.id 0)] [] (.ai (rG 52 6)))
def akA:ak:=(.ai (rG 52 7))
def akB:ak:=(.keep [0,1,7,8,1000000] [(0,.id 0)] [] (.seq (.block 1 (.seq (.ai (rG 52 3)) (.seq (.seq (.ai (rG 52 4)) (.cond (.tmp 14) (.ai (rG 52 5)) .skip)) akz))) akA))
def akC:ak:=(.keep [0,1,7,8,9,1000000] [(0,.id 0)] [] (.seq (.cond (.tmp 9) .skip (.keep [0,1000000] [(0,.id 0)] [] (.exit 0))) akB))
def akD:ak:=(.keep [0,1,7,8,1000000] [(0,.id 0)] [] (.seq (.ai (rG 52 2)) akC))
def akE:ak:=(.seq (.ai (rG 52 0)) (.seq (.seq (.ai (rG 52 1)) (.block 0 (.loop akD))) (.seq (.ai (rG 52 8)) .ret)))
def c52:aK:=⟨26,akE,[(.tmp 4)],some ([4,1000000],[(0,.id 0)],[]),false⟩
theorem atP:aW Go.Proofs.Tryz.prog cz 52=some (aP c52):=by kernel_rfl
def akF:ak:=(.keep [4,6,7,15,16,17] [(40,.id 40),(56,.id 56)] [] (.seq (.cU (rG 18 12) [(2,5),(3,5)]) (.seq (.ai (rG 18 13)) (.cond (.tmp 39) (.cU (rG 18 14) [(1,4),(2,4)]) .skip))))
def akG:ak:=(.keep [4,6,15,16,17] [(40,.id 40),(56,.id 56)] [] (.seq (.ai (rG 18 9)) (.seq (.seq (.ai (rG 18 10)) (.cond (.tmp 30) (.ai (rG 18 11)) .skip)) akF)))
def WN:ak:=(.ai (rG 18 15))
def akH:ak:=(.keep [4,15,16,17] [(40,.id 40)] [] (.seq (.block 1 (.seq (.ai (rG 18 6)) (.seq (.seq (.ai (rG 18 7)) (.cond (.tmp 28) (.seq (.ai (rG 18 8)) .ret) .skip)) akG))) WN))
def akI:ak:=(.keep [4,15,16,17,18] [(40,.id 40)] [] (.seq (.cond (.tmp 18) .skip (.keep [4] [(40,.id 40)] [] (.exit 0))) akH))
def akJ:ak:=(.keep [4,15,16,17] [(40,.id 40)] [] (.seq (.ai (rG 18 5)) akI))
def akK:ak:=(.keep [0] [] [] (.seq (.ai (rG 18 3)) (.seq (.seq (.ai (rG 18 4)) (.block 0 (.loop akJ))) (.seq (.ai (rG 18 16)) .ret))))
def akL:ak:=(.seq (.ai (rG 18 0)) (.seq (.seq (.ai (rG 18 1)) (.cond (.tmp 14) (.seq (.ai (rG 18 2)) .ret) .skip)) akK))
def c18:aK:=⟨49,akL,[(.tmp 2),(.tmp 3)],some ([2,3],[],[]),false⟩
theorem atQ:aW Go.Proofs.Tryz.prog cz 18=some (aP c18):=by kernel_rfl
def akM:ak:=(.keep [0] [] [] (.seq (.ai (rG 85 9)) (.cond (.tmp 25) (.seq (.ai (rG 85 10)) .ret) (.seq (.ai (rG 85 11)) (.cond (.tmp 28) (.seq (.ai (rG 85 12)) .ret) (.seq (.ai (rG 85 13)) (.cond (.tmp 31) (.seq (.ai (rG 85 14)) .ret) .skip)))))))
def akN:ak:=(.keep [0] [] [] (.seq (.ai (rG 85 3)) (.cond (.tmp 12) (.seq (.ai (rG 85 4)) .ret) (.seq (.ai (rG 85 5)) (.cond (.tmp 15) (.seq (.ai (rG 85 6)) .ret) (.seq (.ai (rG 85 7)) (.cond (.tmp 18) (.seq (.ai (rG 85 8)) .ret) akM)))))))
def WO:ak:=(.seq (.ai (rG 85 15)) .ret)
def akO:ak:=(.seq (.ai (rG 85 0)) (.seq (.block 0 (.seq (.ai (rG 85 1)) (.cond (.tmp 5) (.seq (.ai (rG 85 2)) .ret) akN))) WO))
def c85:aK:=⟨38,akO,[(.tmp 2),(.tmp 3),(.tmp 4)],some ([2,3,4],[],[]),false⟩
theorem atT:aW Go.Proofs.Tryz.prog cz 85=some (aP c85):=by kernel_rfl
def akP:ak:=(.keep [0,4,5,6,7] [] [] (.seq (.seq (.ai (rG 53 5)) (.cond (.tmp 39) .skip (.keep [4,7] [] [] (.exit 0)))) (.block 1 (.seq (.ai (rG 53 6)) (.ai (rG 53 7))))))
def akQ:ak:=(.keep [0,4,5,6] [] [] (.seq (.ai (rG 53 4)) (.seq (.block 0 (.loop akP)) (.seq (.ai (rG 53 8)) .ret))))
def akR:ak:=(.seq (.ai (rG 53 0)) (.seq (.ai (rG 53 1)) (.seq (.seq (.ai (rG 53 2)) (.cond (.tmp 16) (.seq (.ai (rG 53 3)) .ret) .skip)) akQ)))
def c53:aK:=⟨46,akR,[(.tmp 2),(.tmp 3)],some ([2,3],[],[]),false⟩
theorem atV:aW Go.Proofs.Tryz.prog cz 53=some (aP c53):=by kernel_rfl
def akS:ak:=(.keep [0] [] [] (.seq (.seq (.ai (rG 20 3)) (.seq (.ai (rG 20 4)) (.cond (.tmp 18) (.seq (.ai (rG 20 5)) .ret) .skip))) (.seq (.ai (rG 20 6)) .ret)))
def akT:ak:=(.seq (.ai (rG 20 0)) (.seq (.seq (.ai (rG 20 1)) (.cond (.tmp 6) (.seq (.ai (rG 20 2)) .ret) .skip)) akS))
def c20:aK:=⟨19,akT,[(.tmp 2)],some ([2],[],[]),false⟩
theorem atW:aW Go.Proofs.Tryz.prog cz 20=some (aP c20):=by kernel_rfl
def aak:ak:=(.keep [0,14,15] [] [] (.seq (.block 1 (.seq (.ai (rG 54 5)) (.seq (.ai (rG 54 6)) (.cond (.tmp 33) (.seq (.ai (rG 54 7)) .ret) .skip)))) (.ai (rG 54 8))))
def aal:ak:=(.keep [0,14,15,16] [] [] (.seq (.cond (.tmp 16) .skip (.keep [0] [] [] (.exit 0))) aak))
def aam:ak:=(.keep [0,14,15] [] [] (.seq (.ai (rG 54 4)) aal))
def akU:ak:=(.keep [5,7,8,36,37,38,46,47] [(48,.id 48)] [] (.seq (.block 5 (.seq (.ai (rG 54 17)) (.ai (rG 54 18)))) (.ai (rG 54 19))))
def akV:ak:=(.keep [5,7,8,36,37,38,46,47,48] [(48,.id 48)] [] (.seq (.cond (.tmp 48) .skip (.keep [5,8,36,37,38] [(48,.id 48)] [] (.exit 4))) akU))
def akW:ak:=(.keep [5,7,8,36,37,38,46,47] [(48,.id 48)] [] (.seq (.ai (rG 54 16)) akV))
def akX:ak:=(.keep [5,7,36,37,38] [(48,.id 48)] [] (.seq (.ai (rG 54 14)) (.seq (.seq (.ai (rG 54 15)) (.block 4 (.loop akW))) (.ai (rG 54 20)))))
def akY:ak:=(.ai (rG 54 21))
def akZ:ak:=(.keep [5,36,37,38] [(48,.id 48)] [] (.seq (.block 3 (.seq (.ai (rG 54 12)) (.seq (.seq (.ai (rG 54 13)) (.cond (.tmp 44) (.keep [5] [(48,.id 48)] [] (.exit 2)) .skip)) akX))) akY))
def ak0:ak:=(.keep [5,36,37,38,39] [(48,.id 48)] [] (.seq (.cond (.tmp 39) .skip (.keep [5] [(48,.id 48)] [] (.exit 2))) akZ))
def ak1:ak:=(.keep [5,36,37,38] [(48,.id 48)] [] (.seq (.ai (rG 54 11)) ak0))
def ak2:ak:=(.keep [0] [] [] (.seq (.ai (rG 54 9)) (.seq (.seq (.ai (rG 54 10)) (.block 2 (.loop ak1))) (.seq (.ai (rG 54 22)) .ret))))
def aan:ak:=(.keep [0] [] [] (.seq (.seq (.ai (rG 54 3)) (.block 0 (.loop aam))) ak2))
def ak3:ak:=(.seq (.ai (rG 54 0)) (.seq (.seq (.ai (rG 54 1)) (.cond (.tmp 12) (.seq (.ai (rG 54 2)) .ret) .skip)) aan))
def WQ:aK:=⟨67,ak3,[(.tmp 2),(.tmp 3)],some ([2,3],[(569,(.slot 2 none))],[]),false⟩
theorem atX:aW Go.Proofs.Tryz.prog cz 54=some (aP WQ):=by kernel_rfl
def ak4:ak:=(.seq (.ai (rG 55 0)) (.seq (.ai (rG 55 1)) .ret))
def c55:aK:=⟨15,ak4,[(.tmp 6)],some ([6],[],[]),false⟩
theorem atZ:aW Go.Proofs.Tryz.prog cz 55=some (aP c55):=by kernel_rfl
def ak5:ak:=(.keep [0,1,7,8] [] [] (.seq (.block 1 (.seq (.ai (rG 56 3)) (.seq (.ai (rG 56 4)) (.cond (.tmp 16) (.seq (.ai (rG 56 5)) .ret) .skip)))) (.ai (rG 56 6))))
def ak6:ak:=(.keep [0,1,7,8,9] [] [] (.seq (.cond (.tmp 9) .skip (.keep [0,1] [] [] (.exit 0))) ak5))
def ak7:ak:=(.keep [0,1,7,8] [] [] (.seq (.ai (rG 56 2)) ak6))
def ak8:ak:=(.seq (.ai (rG 56 0)) (.seq (.seq (.ai (rG 56 1)) (.block 0 (.loop ak7))) (.seq (.ai (rG 56 7)) .ret)))
def WR:aK:=⟨22,ak8,[(.tmp 4)],some ([4],[],[]),false⟩
theorem at0:aW Go.Proofs.Tryz.prog cz 56=some (aP WR):=by kernel_rfl
def ak9:ak:=(.keep [1,6] [(16,.id 16)] [] (.seq (.ai (rG 21 7)) (.seq (.seq (.ai (rG 21 8)) (.cond (.tmp 107) (.seq (.ai (rG 21 9)) .ret) .skip)) (.seq (.ai (rG 21 10)) .ret))))
def ak_:ak:=(.keep [1,5,6] [(16,.id 16)] [] (.seq (.ai (rG 21 6)) ak9))
def ala:ak:=(.keep [1,3,5,6] [(16,.id 16)] [] (.seq (.ai (rG 21 5)) ak_))
def alb:ak:=(.keep [1,3] [(16,.id 16)] [] (.seq (.ai (rG 21 2)) (.seq (.ai (rG 21 3)) (.seq (.ai (rG 21 4)) ala))))
def alc:ak:=(.seq (.ai (rG 21 0)) (.seq (.ai (rG 21 1)) alb))
def c21:aK:=⟨108,alc,[(.tmp 2)],some ([2],[],[]),false⟩
theorem at2:aW Go.Proofs.Tryz.prog cz 21=some (aP c21):=by kernel_rfl
def ald:ak:=(.seq (.ai (rG 88 0)) (.seq (.seq (.ai (rG 88 1)) (.cond (.tmp 18) (.seq (.ai (rG 88 2)) .ret) .skip)) (.seq (.ai (rG 88 3)) .ret)))
def c88:aK:=⟨19,ald,[(.tmp 4)],some ([4],[],[]),false⟩
theorem at4:aW Go.Proofs.Tryz.prog cz 88=some (aP c88):=by kernel_rfl
def WS:ak:=(.seq (.ai (rG 89 0)) (.seq (.ai (rG 89 1)) .ret))
def c89:aK:=⟨17,WS,[(.tmp 4)],some ([4,2000000],[(0,.id 0)],[]),false⟩
theorem at5:aW Go.Proofs.Tryz.prog cz 89=some (aP c89):=by kernel_rfl
def alf:ak:=(.seq (.ai (rG 92 0)) (.seq (.ai (rG 92 1)) .ret))
def c92:aK:=⟨17,alf,[(.tmp 2)],some ([2],[],[]),false⟩
theorem at7:aW Go.Proofs.Tryz.prog cz 92=some (aP c92):=by kernel_rfl
def alg:ak:=(.seq (.ai (rG 59 0)) (.seq (.seq (.ai (rG 59 1)) (.cond (.tmp 22) (.seq (.ai (rG 59 2)) .ret) .skip)) (.seq (.ai (rG 59 3)) .ret)))
def c59:aK:=⟨23,alg,[(.tmp 2)],some ([2],[],[]),false⟩
theorem at9:aW Go.Proofs.Tryz.prog cz 59=some (aP c59):=by kernel_rfl
def aao:ak:=(.keep [0,7,8,9] [] [] (.seq (.block 1 (.seq (.ai (rG 126 3)) (.seq (.ai (rG 126 4)) (.cond (.tmp 22) (.seq (.ai (rG 126 5)) .ret) .skip)))) (.ai (rG 126 6))))
def aap:ak:=(.keep [0,7,8,9,10] [] [] (.seq (.cond (.tmp 10) .skip (.keep [] [] [] (.exit 0))) aao))
def aaq:ak:=(.keep [0,7,8,9] [] [] (.seq (.ai (rG 126 2)) aap))
def aar:ak:=(.seq (.ai (rG 126 0)) (.seq (.seq (.ai (rG 126 1)) (.block 0 (.loop aaq))) (.seq (.ai (rG 126 7)) .ret)))
def J7:aK:=⟨24,aar,[(.tmp 4)],some ([4],[],[]),false⟩
theorem alh:aW Go.Proofs.Tryz.prog cz 126=some (aP J7):=by kernel_rfl
def ali:ak:=(.keep [0,4,25] [(40,.id 40)] [] (.cond (.tmp 25) (.seq (.ai (rG 90 4)) .ret) (.seq (.ai (rG 90 5)) (.cond (.tmp 37) (.seq (.ai (rG 90 6)) .ret) .skip))))
def alj:ak:=(.seq (.ai (rG 90 7)) .ret)
def alk:ak:=(.seq (.ai (rG 90 0)) (.seq (.ai (rG 90 1)) (.seq (.ai (rG 90 2)) (.seq (.block 0 (.seq (.ai (rG 90 3)) ali)) alj))))
def c90:aK:=⟨41,alk,[(.tmp 2)],some ([2],[],[]),false⟩
theorem aub:aW Go.Proofs.Tryz.prog cz 90=some (aP c90):=by kernel_rfl
def aas:ak:=(.seq (.ai (rG 127 0)) (.seq (.cU (rG 127 1) []) .ret))
def aat:aK:=⟨30,aas,[(.tmp 3)],some ([3],[],[]),false⟩
theorem alm:aW Go.Proofs.Tryz.prog cz 127=some (aP aat):=by kernel_rfl
def aln:ak:=(.keep [1,2,5] [(24,.id 24)] [] (.seq (.ai (rG 91 4)) .ret))
def alo:ak:=(.seq (.ai (rG 91 0)) (.seq (.ai (rG 91 1)) (.seq (.seq (.ai (rG 91 2)) (.cond (.tmp 12) (.seq (.ai (rG 91 3)) .ret) .skip)) aln)))
def c91:aK:=⟨45,alo,[(.tmp 4)],some ([4],[],[]),false⟩
theorem aud:aW Go.Proofs.Tryz.prog cz 91=some (aP c91):=by kernel_rfl
def alp:ak:=(.keep [1,5,26,27,33,34,35] [(16,.id 16)] [] (.seq (.block 3 (.seq (.ai (rG 57 12)) (.seq (.ai (rG 57 13)) (.cond (.tmp 59) (.seq (.ai (rG 57 14)) .ret) .skip)))) (.ai (rG 57 15))))
def alq:ak:=(.keep [1,5,26,27,33,34,35,36] [(16,.id 16)] [] (.seq (.cond (.tmp 36) .skip (.keep [1,26,27] [(16,.id 16)] [] (.exit 2))) alp))
def alr:ak:=(.keep [1,5,26,27,33,34,35] [(16,.id 16)] [] (.seq (.ai (rG 57 11)) alq))
def als:ak:=(.keep [1,26,27] [(16,.id 16)] [] (.seq (.block 1 (.seq (.ai (rG 57 8)) (.seq (.ai (rG 57 9)) (.seq (.ai (rG 57 10)) (.block 2 (.loop alr)))))) (.ai (rG 57 16))))
def alu:ak:=(.keep [1,26,27,28] [(16,.id 16)] [] (.seq (.cond (.tmp 28) .skip (.keep [] [] [] (.exit 0))) als))
def alv:ak:=(.keep [1,26,27] [(16,.id 16)] [] (.seq (.ai (rG 57 7)) alu))
def alw:ak:=(.keep [1] [(16,.id 16)] [] (.seq (.seq (.ai (rG 57 6)) (.block 0 (.loop alv))) (.seq (.ai (rG 57 17)) .ret)))
def alx:ak:=(.keep [1] [(16,.id 16)] [] (.seq (.seq (.ai (rG 57 4)) (.cond (.tmp 24) (.seq (.ai (rG 57 5)) .ret) .skip)) alw))
def aly:ak:=(.seq (.ai (rG 57 0)) (.seq (.seq (.ai (rG 57 1)) (.seq (.ai (rG 57 2)) (.cond (.tmp 14) (.seq (.ai (rG 57 3)) .ret) .skip))) alx))
def Tg:aK:=⟨62,aly,[(.tmp 2)],some ([2],[],[]),false⟩
theorem aue:aW Go.Proofs.Tryz.prog cz 57=some (aP Tg):=by kernel_rfl
def alz:ak:=(.seq (.ai (rG 58 0)) (.seq (.ai (rG 58 1)) .ret))
def c58:aK:=⟨15,alz,[(.tmp 6)],some ([6],[],[]),false⟩
theorem aug:aW Go.Proofs.Tryz.prog cz 58=some (aP c58):=by kernel_rfl
def alA:ak:=(.seq (.ai (rG 60 0)) (.seq (.ai (rG 60 1)) .ret))
def c60:aK:=⟨9,alA,[(.tmp 2)],some ([2],[],[]),false⟩
theorem aui:aW Go.Proofs.Tryz.prog cz 60=some (aP c60):=by kernel_rfl
def alB:ak:=(.keep [0,5,6,7] [] [] (.seq (.block 1 (.seq (.ai (rG 61 3)) (.seq (.ai (rG 61 4)) (.cond (.tmp 18) (.seq (.ai (rG 61 5)) .ret) .skip)))) (.ai (rG 61 6))))
def alC:ak:=(.keep [0,5,6,7,8] [] [] (.seq (.cond (.tmp 8) .skip (.keep [0] [] [] (.exit 0))) alB))
def alD:ak:=(.keep [0,5,6,7] [] [] (.seq (.ai (rG 61 2)) alC))
def alE:ak:=(.seq (.ai (rG 61 0)) (.seq (.seq (.ai (rG 61 1)) (.block 0 (.loop alD))) (.seq (.ai (rG 61 7)) .ret)))
def WT:aK:=⟨23,alE,[(.tmp 2)],some ([2],[],[]),false⟩
theorem auj:aW Go.Proofs.Tryz.prog cz 61=some (aP WT):=by kernel_rfl
def J8:ak:=(.keep [1,5,98] [(16,.id 16)] [] (.seq (.block 1 (.seq (.ai (rG 22 8)) (.ai (rG 22 9)))) (.ai (rG 22 10))))
def J9:ak:=(.loop (.seq (.ai (rG 22 7)) (.seq (.cond (.tmp 99) .skip (.exit 0)) J8)))
def alF:ak:=(.keep [1,5] [(16,.id 16)] [] (.seq (.ai (rG 22 13)) (.seq (.seq (.ai (rG 22 14)) (.cond (.tmp 156) (.seq (.ai (rG 22 15)) .ret) .skip)) (.seq (.ai (rG 22 16)) .ret))))
def alG:ak:=(.keep [1,5] [(16,.id 16)] [] (.seq (.ai (rG 22 12)) alF))
def FU:ak:=(.keep [1,5] [(16,.id 16)] [] (.seq (.ai (rG 22 11)) alG))
def alH:ak:=(.keep [1,5] [(16,.id 16)] [] (.seq (.seq (.ai (rG 22 6)) (.block 0 J9)) FU))
def alI:ak:=(.keep [1,5] [(16,.id 16)] [] (.seq (.ai (rG 22 5)) alH))
def alJ:ak:=(.keep [1,3,5] [(16,.id 16),(32,.id 32)] [] (.seq (.ai (rG 22 4)) alI))
def alK:ak:=(.keep [1,3,5] [(16,.id 16),(32,.id 32)] [] (.seq (.ai (rG 22 3)) alJ))
def alL:ak:=(.seq (.ai (rG 22 0)) (.seq (.cU (rG 22 1) [(1,4),(3,4),(1,5),(3,5),(4,5),(3,6)]) (.seq (.ai (rG 22 2)) alK)))
def c22:aK:=⟨157,alL,[(.tmp 2)],some ([2],[],[]),false⟩
theorem aul:aW Go.Proofs.Tryz.prog cz 22=some (aP c22):=by kernel_rfl
def alM:ak:=(.seq (.ai (rG 62 0)) (.seq (.ai (rG 62 1)) .ret))
def c62:aK:=⟨9,alM,[(.tmp 2)],some ([2],[],[]),false⟩
theorem aun:aW Go.Proofs.Tryz.prog cz 62=some (aP c62):=by kernel_rfl
def WU:ak:=(.keep [11,12,15,16] [] [] (.seq (.block 3 (.seq (.ai (rG 23 6)) (.seq (.ai (rG 23 7)) (.cond (.tmp 22) (.seq (.ai (rG 23 8)) .ret) .skip)))) (.ai (rG 23 9))))
def WV:ak:=(.keep [11,12,15,16,17] [] [] (.seq (.cond (.tmp 17) .skip (.keep [11,12] [] [] (.exit 2))) WU))
def WW:ak:=(.keep [11,12,15,16] [] [] (.seq (.ai (rG 23 5)) WV))
def WX:ak:=(.keep [11,12] [] [] (.seq (.block 1 (.seq (.ai (rG 23 3)) (.seq (.ai (rG 23 4)) (.block 2 (.loop WW))))) (.ai (rG 23 10))))
def WY:ak:=(.loop (.seq (.ai (rG 23 2)) (.seq (.cond (.tmp 13) .skip (.exit 0)) WX)))
def WZ:ak:=(.seq (.ai (rG 23 11)) .ret)
def alN:ak:=(.seq (.ai (rG 23 0)) (.seq (.seq (.ai (rG 23 1)) (.block 0 WY)) WZ))
def Qa:aK:=⟨25,alN,[(.tmp 2)],some ([2],[],[]),false⟩
theorem auo:aW Go.Proofs.Tryz.prog cz 23=some (aP Qa):=by kernel_rfl
def alO:ak:=(.keep [0,5,6] [] [] (.seq (.block 1 (.seq (.ai (rG 63 3)) (.seq (.ai (rG 63 4)) (.cond (.tmp 18) (.seq (.ai (rG 63 5)) .ret) .skip)))) (.ai (rG 63 6))))
def alP:ak:=(.keep [0,5,6,7] [] [] (.seq (.cond (.tmp 7) .skip (.keep [0] [] [] (.exit 0))) alO))
def alQ:ak:=(.keep [0,5,6] [] [] (.seq (.ai (rG 63 2)) alP))
def alR:ak:=(.keep [0] [] [] (.seq (.ai (rG 63 7)) .ret))
def alS:ak:=(.seq (.ai (rG 63 0)) (.seq (.seq (.ai (rG 63 1)) (.block 0 (.loop alQ))) alR))
def W4:aK:=⟨27,alS,[(.tmp 2)],some ([2],[],[]),false⟩
theorem aup:aW Go.Proofs.Tryz.prog cz 63=some (aP W4):=by kernel_rfl
def alT:ak:=(.keep [0,1,7,8] [] [] (.seq (.block 1 (.seq (.ai (rG 93 3)) (.seq (.ai (rG 93 4)) (.cond (.tmp 16) (.seq (.ai (rG 93 5)) .ret) .skip)))) (.ai (rG 93 6))))
def alU:ak:=(.keep [0,1,7,8,9] [] [] (.seq (.cond (.tmp 9) .skip (.keep [] [] [] (.exit 0))) alT))
def alV:ak:=(.keep [0,1,7,8] [] [] (.seq (.ai (rG 93 2)) alU))
def alW:ak:=(.seq (.ai (rG 93 0)) (.seq (.seq (.ai (rG 93 1)) (.block 0 (.loop alV))) (.seq (.ai (rG 93 7)) .ret)))
def W5:aK:=⟨19,alW,[(.tmp 4)],some ([4],[],[]),false⟩
theorem auq:aW Go.Proofs.Tryz.prog cz 93=some (aP W5):=by kernel_rfl
def alX:ak:=(.seq (.ai (rG 64 0)) (.seq (.ai (rG 64 1)) .ret))
def c64:aK:=⟨9,alX,[(.tmp 4)],some ([4],[],[]),false⟩
theorem aus:aW Go.Proofs.Tryz.prog cz 64=some (aP c64):=by kernel_rfl
def alY:ak:=(.keep [1,16,17,18] [(16,.id 16)] [] (.seq (.block 1 (.seq (.ai (rG 24 5)) (.seq (.ai (rG 24 6)) (.cond (.tmp 33) (.seq (.ai (rG 24 7)) .ret) .skip)))) (.ai (rG 24 8))))
def alZ:ak:=(.keep [1,16,17,18,19] [(16,.id 16)] [] (.seq (.cond (.tmp 19) .skip (.keep [1] [(16,.id 16)] [] (.exit 0))) alY))
def al0:ak:=(.keep [1,16,17,18] [(16,.id 16)] [] (.seq (.ai (rG 24 4)) alZ))
def al1:ak:=(.keep [1] [(16,.id 16)] [] (.seq (.seq (.ai (rG 24 9)) (.cond (.tmp 45) (.seq (.ai (rG 24 10)) .ret) .skip)) (.seq (.ai (rG 24 11)) .ret)))
def al2:ak:=(.keep [1] [(16,.id 16)] [] (.seq (.seq (.ai (rG 24 3)) (.block 0 (.loop al0))) al1))
def al3:ak:=(.seq (.ai (rG 24 0)) (.seq (.seq (.ai (rG 24 1)) (.cond (.tmp 14) (.seq (.ai (rG 24 2)) .ret) .skip)) al2))
def W6:aK:=⟨46,al3,[(.tmp 2)],some ([2],[],[]),false⟩
theorem aut:aW Go.Proofs.Tryz.prog cz 24=some (aP W6):=by kernel_rfl
def al4:ak:=(.keep [1,6,7] [(16,.id 16)] [] (.seq (.block 1 (.seq (.ai (rG 25 3)) (.seq (.ai (rG 25 4)) (.cond (.tmp 11) (.seq (.ai (rG 25 5)) .ret) .skip)))) (.ai (rG 25 6))))
def al5:ak:=(.keep [1,6,7,8] [(16,.id 16)] [] (.seq (.cond (.tmp 8) .skip (.keep [1] [(16,.id 16)] [] (.exit 0))) al4))
def al6:ak:=(.keep [1,6,7] [(16,.id 16)] [] (.seq (.ai (rG 25 2)) al5))
def al7:ak:=(.keep [1] [(16,.id 16)] [] (.seq (.seq (.ai (rG 25 7)) (.cond (.tmp 22) (.seq (.ai (rG 25 8)) .ret) .skip)) (.seq (.ai (rG 25 9)) .ret)))
def al8:ak:=(.seq (.ai (rG 25 0)) (.seq (.seq (.ai (rG 25 1)) (.block 0 (.loop al6))) al7))
def W7:aK:=⟨23,al8,[(.tmp 2)],some ([2],[],[]),false⟩
theorem auu:aW Go.Proofs.Tryz.prog cz 25=some (aP W7):=by kernel_rfl
def al9:ak:=(.seq (.ai (rG 26 0)) (.seq (.seq (.ai (rG 26 1)) (.cond (.tmp 6) (.seq (.ai (rG 26 2)) .ret) .skip)) (.seq (.ai (rG 26 3)) .ret)))
def c26:aK:=⟨7,al9,[(.tmp 2)],some ([2],[],[]),false⟩
theorem auw:aW Go.Proofs.Tryz.prog cz 26=some (aP c26):=by kernel_rfl
def aDa:ak:=(.cU (rG 7 2) [(2,4),(2,7),(5,7),(2,10),(5,10),(8,10),(2,13),(5,13),(8,13),(11,13),(2,16),(5,16),(8,16),(11,16),(14,16),(2,20),(5,20),(8,20),(11,20),(14,20),(17,20),(2,23),(5,23),(8,23),(11,23),(14,23),(17,23),(21,23)])
def ax_:ak:=(.keep [38,39] [] [] (.seq (.block 1 (.seq (.ai (rG 7 4)) (.seq (.ai (rG 7 5)) (.cond (.tmp 43) (.seq (.ai (rG 7 6)) .ret) .skip)))) (.ai (rG 7 7))))
def aya:ak:=(.keep [38,39,40] [] [] (.seq (.cond (.tmp 40) .skip (.keep [] [] [] (.exit 0))) ax_))
def ayb:ak:=(.keep [38,39] [] [] (.seq (.ai (rG 7 3)) aya))
def ayc:ak:=(.seq (.ai (rG 7 0)) (.seq (.ai (rG 7 1)) (.seq (.seq aDa (.block 0 (.loop ayb))) (.seq (.ai (rG 7 8)) .ret))))
def c7:aK:=⟨45,ayc,[(.tmp 2)],some ([2],[],[]),false⟩
theorem aAa:aW Go.Proofs.Tryz.prog cz 7=some (aP c7):=by kernel_rfl
def W8:ak:=(.seq (.ai (rG 70 0)) (.seq (.seq (.ai (rG 70 1)) (.cond (.tmp 4) (.seq (.ai (rG 70 2)) .ret) .skip)) (.seq (.ai (rG 70 3)) .ret)))
def Qb:aK:=⟨8,W8,[(.tmp 2)],some ([2],[(97,(.slot 2 none))],[]),true⟩
theorem auy:aW Go.Proofs.Tryz.prog cz 70=some (aP Qb):=by kernel_rfl
def al_:ak:=(.seq (.ai (rG 69 0)) (.seq (.ai (rG 69 1)) (.seq (.ai (rG 69 2)) .ret)))
def c69:aK:=⟨8,al_,[(.cell 2 .true 3)],some ([2],[(24,.id 24),(48,.id 48)],[]),false⟩
theorem auz:aW Go.Proofs.Tryz.prog cz 69=some (aP c69):=by kernel_rfl
def amb:ak:=(.keep [1,2,3,15,16,17] [(16,.id 16),(72,.id 72),(96,.id 96),(24,.id 24),(32,.id 32)] [] (.seq (.block 1 (.seq (.ai (rG 38 5)) (.ai (rG 38 6)))) (.ai (rG 38 7))))
def amc:ak:=(.keep [1,2,3,15,16,17,18] [(16,.id 16),(72,.id 72),(96,.id 96),(24,.id 24),(32,.id 32)] [] (.seq (.cond (.tmp 18) .skip (.keep [1,2,3] [(16,.id 16),(72,.id 72),(96,.id 96),(24,.id 24),(32,.id 32)] [] (.exit 0))) amb))
def amd:ak:=(.keep [1,2,3,15,16,17] [(16,.id 16),(72,.id 72),(96,.id 96),(24,.id 24),(32,.id 32)] [.cell 24 2 0 0 1,.cell 24 30 0 0 1,.cell 24 32 0 0 1] (.seq (.ai (rG 38 4)) amc))
def ame:ak:=(.seq (.ai (rG 38 0)) (.seq (.cU (rG 38 1) [(2,4)]) (.seq (.ai (rG 38 2)) (.seq (.seq (.ai (rG 38 3)) (.block 0 (.loop amd))) (.seq (.ai (rG 38 8)) (.seq (.ai (rG 38 9)) .ret))))))
def c38:aK:=⟨32,ame,[(.cell 2 .true 33)],some ([2],[(24,.id 24),(72,.id 72),(96,.id 96),(32,.id 32)],[]),false⟩
theorem auA:aW Go.Proofs.Tryz.prog cz 38=some (aP c38):=by kernel_rfl
def W9:ak:=(.seq (.ai (rG 39 0)) (.seq (.seq (.ai (rG 39 1)) (.cond (.tmp 4) (.seq (.ai (rG 39 2)) .ret) .skip)) (.seq (.ai (rG 39 3)) .ret)))
def Qc:aK:=⟨8,W9,[(.tmp 2)],some ([2],[(97,(.slot 2 none))],[]),true⟩
theorem auB:aW Go.Proofs.Tryz.prog cz 39=some (aP Qc):=by kernel_rfl
def W_:ak:=(.seq (.ai (rG 40 0)) (.seq (.seq (.ai (rG 40 1)) (.cond (.tmp 4) (.seq (.ai (rG 40 2)) .ret) .skip)) (.seq (.ai (rG 40 3)) .ret)))
def Qd:aK:=⟨8,W_,[(.tmp 2)],some ([2],[(97,(.slot 2 none))],[]),true⟩
theorem auC:aW Go.Proofs.Tryz.prog cz 40=some (aP Qd):=by kernel_rfl
def amg:ak:=(.seq (.ai (rG 14 0)) (.seq (.ai (rG 14 1)) (.seq (.cU (rG 14 2) [(3,5)]) (.seq (.ai (rG 14 3)) .ret))))
def c14:aK:=⟨18,amg,[(.cell 2 .true 613)],some ([2],[(24,.id 24)],[]),false⟩
theorem auD:aW Go.Proofs.Tryz.prog cz 14=some (aP c14):=by kernel_rfl
def amh:ak:=(.seq (.ai (rG 27 0)) (.seq (.ai (rG 27 1)) .ret))
def c27:aK:=⟨17,amh,[(.tmp 2)],some ([2],[],[]),false⟩
theorem auF:aW Go.Proofs.Tryz.prog cz 27=some (aP c27):=by kernel_rfl
def ami:ak:=(.keep [1,2] [] [] (.seq (.ai (rG 28 3)) .ret))
def amj:ak:=(.seq (.ai (rG 28 0)) (.seq (.seq (.ai (rG 28 1)) (.cond (.tmp 8) (.seq (.ai (rG 28 2)) .ret) .skip)) ami))
def c28:aK:=⟨23,amj,[(.tmp 6)],some ([6],[],[]),false⟩
theorem auH:aW Go.Proofs.Tryz.prog cz 28=some (aP c28):=by kernel_rfl
def amk:ak:=(.seq (.ai (rG 29 0)) (.seq (.ai (rG 29 1)) (.seq (.seq (.ai (rG 29 2)) (.cond (.tmp 10) (.ai (rG 29 3)) .skip)) (.seq (.ai (rG 29 4)) .ret))))
def c29:aK:=⟨19,amk,[(.tmp 4)],some ([4],[],[]),false⟩
theorem auJ:aW Go.Proofs.Tryz.prog cz 29=some (aP c29):=by kernel_rfl
def aau:ak:=(.keep [0,1,5,25,1000000] [(0,.id 0)] [] (.cond (.tmp 25) (.seq (.ai (rG 160 6)) .ret) (.seq (.ai (rG 160 7)) (.cond (.tmp 50) (.seq (.ai (rG 160 8)) .ret) (.seq (.ai (rG 160 9)) .ret)))))
def auK:ak:=(.seq (.ai (rG 160 0)) (.seq (.ai (rG 160 1)) (.block 0 (.seq (.ai (rG 160 2)) (.cond (.tmp 11) (.seq (.ai (rG 160 3)) .ret) (.seq (.seq (.ai (rG 160 4)) (.cond (.tmp 25) .skip (.ai (rG 160 5)))) aau))))))
def aav:ak:=auK
def aaw:aK:=⟨78,aav,[(.tmp 4)],some ([4,1000000],[(0,.id 0)],[]),false⟩
theorem aml:aW Go.Proofs.Tryz.prog cz 160=some (aP aaw):=by kernel_rfl
def aax:ak:=(.seq (.ai (rG 115 0)) (.seq (.seq (.ai (rG 115 1)) (.cond (.tmp 7) (.seq (.ai (rG 115 2)) .ret) .skip)) (.seq (.ai (rG 115 3)) .ret)))
def aay:aK:=⟨16,aax,[(.tmp 4)],some ([4,1000000],[(0,.id 0)],[]),false⟩
theorem amm:aW Go.Proofs.Tryz.prog cz 115=some (aP aay):=by kernel_rfl
def amn:ak:=(.keep [3,6,7,8] [(32,.id 32)] [] (.seq (.block 1 (.seq (.ai (rG 78 4)) (.seq (.seq (.ai (rG 78 5)) (.cond (.tmp 25) (.ai (rG 78 6)) .skip)) (.ai (rG 78 7))))) (.ai (rG 78 8))))
def amo:ak:=(.keep [3,6,7,8,9] [(32,.id 32)] [] (.seq (.cond (.tmp 9) .skip (.keep [3] [(32,.id 32)] [] (.exit 0))) amn))
def amp:ak:=(.keep [3,6,7,8] [(32,.id 32)] [] (.seq (.ai (rG 78 3)) amo))
def amq:ak:=(.seq (.ai (rG 78 0)) (.seq (.ai (rG 78 1)) (.seq (.seq (.ai (rG 78 2)) (.block 0 (.loop amp))) (.seq (.ai (rG 78 9)) .ret))))
def c78:aK:=⟨33,amq,[(.tmp 2)],some ([2],[],[]),false⟩
theorem auM:aW Go.Proofs.Tryz.prog cz 78=some (aP c78):=by kernel_rfl
def amr:ak:=(.keep [0] [] [] (.ai (rG 65 3)))
def ams:ak:=(.keep [0] [] [] (.seq (.ai (rG 65 4)) (.cond (.tmp 25) (.ai (rG 65 5)) (.seq (.ai (rG 65 6)) (.cond (.tmp 28) (.ai (rG 65 7)) .skip)))))
def Xa:ak:=(.seq (.ai (rG 65 8)) .ret)
def amt:ak:=(.seq (.ai (rG 65 0)) (.seq (.seq (.ai (rG 65 1)) (.cond (.tmp 7) (.block 0 (.seq (.ai (rG 65 2)) (.cond (.tmp 8) amr ams))) .skip)) Xa))
def c65:aK:=⟨34,amt,[(.tmp 4)],some ([4],[],[]),false⟩
theorem auO:aW Go.Proofs.Tryz.prog cz 65=some (aP c65):=by kernel_rfl
def amu:ak:=(.keep [1] [(16,.id 16)] [] (.seq (.ai (rG 30 9)) (.cond (.tmp 31) (.seq (.ai (rG 30 10)) .ret) (.seq (.ai (rG 30 11)) (.cond (.tmp 35) (.seq (.ai (rG 30 12)) .ret) .skip)))))
def amv:ak:=(.keep [1] [(16,.id 16)] [] (.seq (.ai (rG 30 5)) (.cond (.tmp 17) (.seq (.ai (rG 30 6)) .ret) (.seq (.ai (rG 30 7)) (.cond (.tmp 21) (.seq (.ai (rG 30 8)) .ret) amu)))))
def Xb:ak:=(.seq (.ai (rG 30 13)) .ret)
def amw:ak:=(.seq (.ai (rG 30 0)) (.seq (.block 0 (.seq (.ai (rG 30 1)) (.cond (.tmp 3) (.seq (.ai (rG 30 2)) .ret) (.seq (.ai (rG 30 3)) (.cond (.tmp 7) (.seq (.ai (rG 30 4)) .ret) amv))))) Xb))
def c30:aK:=⟨44,amw,[(.tmp 2)],some ([2],[],[]),false⟩
theorem auQ:aW Go.Proofs.Tryz.prog cz 30=some (aP c30):=by kernel_rfl
def ayd:ak:=(.keep [2,6,7] [(24,.id 24)] [] (.seq (.cU (rG 8 8) []) .ret))
def aye:ak:=(.keep [2] [(24,.id 24)] [] .skip)
def ayf:ak:=(.keep [2,6] [(24,.id 24)] [] (.seq (.ai (rG 8 13)) (.cond (.tmp 94) (.seq (.cU (rG 8 14) []) .ret) aye)))
def ayg:ak:=(.keep [2,6] [(24,.id 24)] [] (.seq (.ai (rG 8 11)) (.cond (.tmp 81) (.seq (.cU (rG 8 12) []) .ret) ayf)))
def ayh:ak:=(.keep [2,6] [(24,.id 24)] [] (.seq (.ai (rG 8 9)) (.cond (.tmp 67) (.seq (.cU (rG 8 10) []) .ret) ayg)))
def J_:ak:=(.keep [2] [(24,.id 24)] [] (.seq (.ai (rG 8 15)) (.seq (.seq (.ai (rG 8 16)) (.cond (.tmp 114) (.ai (rG 8 17)) .skip)) (.seq (.ai (rG 8 18)) .ret))))
def ayi:ak:=(.keep [1,2] [(24,.id 24)] [] (.seq (.ai (rG 8 3)) (.seq (.block 0 (.seq (.ai (rG 8 4)) (.cond (.tmp 50) (.seq (.ai (rG 8 5)) (.seq (.seq (.ai (rG 8 6)) (.cond (.tmp 59) (.ai (rG 8 7)) .skip)) ayd)) ayh))) J_)))
def ayj:ak:=(.seq (.ai (rG 8 0)) (.seq (.seq (.ai (rG 8 1)) (.cond (.tmp 47) (.seq (.ai (rG 8 2)) .ret) .skip)) ayi))
def c8:aK:=⟨118,ayj,[(.tmp 4),(.tmp 5)],some ([4,5],[],[]),false⟩
theorem aAb:aW Go.Proofs.Tryz.prog cz 8=some (aP c8):=by kernel_rfl
def amx:ak:=(.seq (.ai (rG 46 0)) (.seq (.ai (rG 46 1)) .ret))
def c46:aK:=⟨14,amx,[(.tmp 4)],some ([4],[],[]),false⟩
theorem auS:aW Go.Proofs.Tryz.prog cz 46=some (aP c46):=by kernel_rfl
def aAc:ak:=(.block 1 (.seq (.ai (rG 11 6)) (.seq (.ai (rG 11 7)) (.block 2 (.seq (.ai (rG 11 8)) (.cond (.tmp 23) (.ai (rG 11 9)) (.seq (.ai (rG 11 10)) (.cond (.tmp 28) (.ai (rG 11 11)) (.ai (rG 11 12))))))))))
def amy:ak:=(.keep [0,5,10,11] [(48,.id 48)] [] (.seq aAc (.ai (rG 11 13))))
def amz:ak:=(.keep [0,5,10,11,12] [(48,.id 48)] [] (.seq (.cond (.tmp 12) .skip (.keep [5] [(48,.id 48)] [] (.exit 0))) amy))
def amA:ak:=(.keep [0,5,10,11] [(48,.id 48)] [] (.seq (.ai (rG 11 5)) amz))
def amB:ak:=(.keep [0] [] [] (.seq (.ai (rG 11 3)) (.seq (.seq (.ai (rG 11 4)) (.block 0 (.loop amA))) (.seq (.ai (rG 11 14)) .ret))))
def amC:ak:=(.seq (.ai (rG 11 0)) (.seq (.seq (.ai (rG 11 1)) (.cond (.tmp 7) (.seq (.ai (rG 11 2)) .ret) .skip)) amB))
def c11:aK:=⟨36,amC,[(.tmp 4)],some ([4],[],[]),false⟩
theorem auT:aW Go.Proofs.Tryz.prog cz 11=some (aP c11):=by kernel_rfl
def amD:ak:=(.seq (.ai (rG 10 0)) (.seq (.ai (rG 10 1)) .ret))
def c10:aK:=⟨5,amD,[(.tmp 2)],some ([2],[],[]),false⟩
theorem auU:aW Go.Proofs.Tryz.prog cz 10=some (aP c10):=by kernel_rfl
def amE:ak:=(.cU (rG 44 0) [(3,6),(3,7),(3,8)])
def c44:aK:=⟨16,amE,[],some ([],[(0,.id 0)],[]),false⟩
theorem auW:aW Go.Proofs.Tryz.prog cz 44=some (aP c44):=by kernel_rfl
def amF:ak:=(.seq (.ai (rG 76 0)) (.seq (.ai (rG 76 1)) .ret))
def c76:aK:=⟨14,amF,[(.tmp 4)],some ([4],[],[]),false⟩
theorem auY:aW Go.Proofs.Tryz.prog cz 76=some (aP c76):=by kernel_rfl
def aaz:ak:=(.keep [1,8,9] [(72,.id 72)] [] (.ai (rG 106 15)))
def aaA:ak:=(.ai (rG 106 16))
def aaB:ak:=(.keep [1,8] [(72,.id 72)] [] (.seq (.ai (rG 106 9)) (.seq (.block 2 (.seq (.ai (rG 106 10)) (.cond (.tmp 42) (.seq (.ai (rG 106 11)) (.ai (rG 106 12))) (.seq (.ai (rG 106 13)) (.cond (.tmp 54) (.seq (.ai (rG 106 14)) .ret) aaz))))) aaA)))
def aaC:ak:=(.keep [1,8] [(72,.id 72)] [] (.block 1 (.seq (.seq (.ai (rG 106 7)) (.cond (.tmp 25) (.seq (.cU (rG 106 8) []) (.exit 1)) .skip)) aaB)))
def aaD:ak:=(.keep [1,8] [(72,.id 72)] [] (.seq (.seq (.ai (rG 106 6)) (.cond (.tmp 22) .skip (.keep [8] [(72,.id 72)] [] (.exit 0)))) aaC))
def aaE:ak:=(.keep [0,1] [] [] (.seq (.ai (rG 106 4)) (.seq (.seq (.ai (rG 106 5)) (.block 0 (.loop aaD))) (.seq (.ai (rG 106 17)) .ret))))
def aaF:ak:=(.seq (.ai (rG 106 0)) (.seq (.seq (.ai (rG 106 1)) (.seq (.ai (rG 106 2)) (.cond (.tmp 16) (.seq (.ai (rG 106 3)) .ret) .skip))) aaE))
def Ka:aK:=⟨70,aaF,[(.tmp 4),(.tmp 5),(.tmp 6)],some ([4,5,6],[(593,(.slot 5 none))],[]),false⟩
theorem amG:aW Go.Proofs.Tryz.prog cz 106=some (aP Ka):=by kernel_rfl
def aaG:ak:=(.seq (.ai (rG 179 0)) (.cU (rG 179 1) [(4,6)]))
def aaH:aK:=⟨14,aaG,[],some ([1000001],[(0,.id 0),(1,.id 1)],[]),false⟩
theorem amH:aW Go.Proofs.Tryz.prog cz 179=some (aP aaH):=by kernel_rfl
def aaI:ak:=(.ai (rG 180 0))
def aaJ:aK:=⟨9,aaI,[],some ([1000001],[(0,.id 0),(1,.id 1)],[]),false⟩
theorem amI:aW Go.Proofs.Tryz.prog cz 180=some (aP aaJ):=by kernel_rfl
def aaK:ak:=(.seq (.ai (rG 181 0)) (.ai (rG 181 1)))
def aaL:aK:=⟨10,aaK,[],some ([1000001],[(0,.id 0),(1,.id 1)],[]),false⟩
theorem amJ:aW Go.Proofs.Tryz.prog cz 181=some (aP aaL):=by kernel_rfl
def auZ:ak:=(.cond (.tmp 50) (.seq (.ai (rG 178 6)) (.ai (rG 178 7))) (.seq (.ai (rG 178 8)) (.cond (.tmp 63) .skip (.seq (.cU (rG 178 9) [(4,6),(4,7)]) (.seq (.ai (rG 178 10)) (.cond (.tmp 16) (.ai (rG 178 11)) .skip))))))
def au0:ak:=(.seq (.ai (rG 178 0)) (.cond (.tmp 22) (.ai (rG 178 1)) (.seq (.ai (rG 178 2)) (.cond (.tmp 34) (.ai (rG 178 3)) (.seq (.ai (rG 178 4)) (.cond (.tmp 43) .skip (.seq (.ai (rG 178 5)) auZ)))))))
def aaM:ak:=(.block 0 au0)
def aaN:aK:=⟨70,aaM,[],some ([1000001],[(0,.id 0),(1,.id 1)],[]),false⟩
theorem amK:aW Go.Proofs.Tryz.prog cz 178=some (aP aaN):=by kernel_rfl
def aaO:ak:=(.keep [0,5,1000001] [(0,.id 0),(1,.id 1)] [] .skip)
def au1:ak:=(.cond (.tmp 8) (.ai (rG 182 3)) (.seq (.ai (rG 182 4)) (.cond (.tmp 11) aaO (.seq (.ai (rG 182 5)) (.cond (.tmp 18) (.seq (.ai (rG 182 6)) (.seq (.ai (rG 182 7)) .ret)) (.seq (.ai (rG 182 8)) .ret))))))
def Qe:ak:=(.keep [0,5,1000001] [(0,.id 0),(1,.id 1)] [] (.seq (.seq (.ai (rG 182 9)) (.cond (.tmp 30) (.ai (rG 182 10)) .skip)) (.seq (.ai (rG 182 11)) (.seq (.ai (rG 182 12)) .ret))))
def aaP:ak:=(.seq (.ai (rG 182 0)) (.seq (.ai (rG 182 1)) (.seq (.block 0 (.seq (.ai (rG 182 2)) au1)) Qe)))
def aaQ:aK:=⟨37,aaP,[(.tmp 4)],some ([4,1000001],[(0,.id 0),(1,.id 1)],[]),false⟩
theorem amL:aW Go.Proofs.Tryz.prog cz 182=some (aP aaQ):=by kernel_rfl
def aaR:ak:=(.seq (.ai (rG 206 0)) (.cond (.tmp 10) (.ai (rG 206 1)) .skip))
def aaS:aK:=⟨23,aaR,[],some ([1000001],[(0,.id 0),(1,.id 1)],[]),false⟩
theorem amM:aW Go.Proofs.Tryz.prog cz 206=some (aP aaS):=by kernel_rfl
def aaT:ak:=(.seq (.ai (rG 207 0)) (.seq (.seq (.ai (rG 207 1)) (.cond (.tmp 10) (.ai (rG 207 2)) .skip)) (.seq (.ai (rG 207 3)) (.ai (rG 207 4)))))
def aaU:aK:=⟨17,aaT,[],some ([1000001],[(0,.id 0),(1,.id 1)],[]),false⟩
theorem amN:aW Go.Proofs.Tryz.prog cz 207=some (aP aaU):=by kernel_rfl
def au2:ak:=(.seq (.ai (rG 183 5)) (.cond (.tmp 34) (.ai (rG 183 6)) (.seq (.ai (rG 183 7)) (.cond (.tmp 41) (.ai (rG 183 8)) (.seq (.ai (rG 183 9)) (.cond (.tmp 48) (.ai (rG 183 10)) (.ai (rG 183 11))))))))
def aaV:ak:=(.block 0 (.seq (.ai (rG 183 0)) (.cond (.tmp 8) (.seq (.ai (rG 183 1)) (.ai (rG 183 2))) (.seq (.ai (rG 183 3)) (.cond (.tmp 18) (.ai (rG 183 4)) au2)))))
def aaW:aK:=⟨57,aaV,[],some ([1000001],[(0,.id 0),(1,.id 1)],[]),false⟩
theorem amO:aW Go.Proofs.Tryz.prog cz 183=some (aP aaW):=by kernel_rfl
def aaX:ak:=(.ai (rG 209 0))
def aaY:aK:=⟨6,aaX,[],some ([1000001],[(0,.id 0),(1,.id 1)],[]),false⟩
theorem amP:aW Go.Proofs.Tryz.prog cz 209=some (aP aaY):=by kernel_rfl
def aaZ:ak:=(.keep [0,1,4,1000001] [(0,.id 0),(1,.id 1)] [] (.cU (rG 184 8) []))
def au3:ak:=(.seq (.ai (rG 184 11)) (.cond (.tmp 69) (.seq (.seq (.ai (rG 184 12)) (.cond (.tmp 78) (.ai (rG 184 13)) .skip)) (.ai (rG 184 14))) (.seq (.ai (rG 184 15)) (.cond (.tmp 95) (.ai (rG 184 16)) (.ai (rG 184 17))))))
def au4:ak:=(.cond (.tmp 19) (.seq (.ai (rG 184 4)) (.ai (rG 184 5))) (.seq (.ai (rG 184 6)) (.cond (.tmp 29) (.seq (.ai (rG 184 7)) aaZ) (.seq (.ai (rG 184 9)) (.cond (.tmp 56) (.ai (rG 184 10)) au3)))))
def aa0:ak:=(.block 0 (.seq (.ai (rG 184 0)) (.cond (.tmp 8) (.seq (.ai (rG 184 1)) (.cond (.tmp 16) (.ai (rG 184 2)) .skip)) (.seq (.ai (rG 184 3)) au4))))
def aa1:aK:=⟨111,aa0,[],some ([1000001],[(0,.id 0),(1,.id 1)],[]),false⟩
theorem amQ:aW Go.Proofs.Tryz.prog cz 184=some (aP aa1):=by kernel_rfl
def au5:ak:=(.seq (.ai (rG 144 7)) (.cond (.tmp 26) (.seq (.ai (rG 144 8)) (.seq (.seq (.ai (rG 144 9)) (.cond (.tmp 33) (.ai (rG 144 10)) .skip)) (.seq (.ai (rG 144 11)) (.seq (.ai (rG 144 12)) .ret)))) .skip))
def aa2:ak:=(.keep [0,1,22,1000001] [(0,.id 0),(1,.id 1)] [] (.cond (.tmp 22) (.seq au5 (.ai (rG 144 13))) .skip))
def aa3:ak:=(.keep [0,1,15,16,1000001] [(0,.id 0),(1,.id 1)] [] (.cond (.tmp 16) (.seq (.ai (rG 144 4)) .ret) (.seq (.seq (.ai (rG 144 5)) (.cond (.tmp 22) .skip (.ai (rG 144 6)))) aa2)))
def au6:ak:=(.seq (.ai (rG 144 15)) (.cond (.tmp 54) (.ai (rG 144 16)) (.seq (.ai (rG 144 17)) (.cond (.tmp 65) (.ai (rG 144 18)) (.seq (.ai (rG 144 19)) (.cond (.tmp 70) (.ai (rG 144 20)) (.ai (rG 144 21))))))))
def Im:ak:=(.keep [0,1,1000001] [(0,.id 0),(1,.id 1)] [] (.block 1 (.seq (.ai (rG 144 14)) (.cond (.tmp 50) .skip au6))))
def aa4:ak:=(.keep [0,1,1000001] [(0,.id 0),(1,.id 1)] [] (.seq (.seq (.ai (rG 144 1)) (.block 0 (.seq (.seq (.ai (rG 144 2)) (.cond (.tmp 16) .skip (.ai (rG 144 3)))) aa3))) Im))
def aa5:ak:=(.seq (.seq (.ai (rG 144 0)) (.cond (.tmp 10) .ret .skip)) aa4)
def aa6:aK:=⟨80,aa5,[],some ([1000001],[(0,.id 0),(1,.id 1)],[]),false⟩
theorem amR:aW Go.Proofs.Tryz.prog cz 144=some (aP aa6):=by kernel_rfl
def aa7:ak:=(.keep [4,8,20,21,22] [(40,.id 40),(160,.id 160),(337,.id 337)] [] (.seq (.block 1 (.seq (.ai (rG 107 7)) (.ai (rG 107 8)))) (.ai (rG 107 9))))
def aa8:ak:=(.keep [4,8,20,21,22,23] [(40,.id 40),(160,.id 160),(337,.id 337)] [] (.seq (.cond (.tmp 23) .skip (.keep [4,8] [(40,.id 40),(160,.id 160),(337,.id 337)] [] (.exit 0))) aa7))
def aa9:ak:=(.keep [4,8,20,21,22] [(40,.id 40),(160,.id 160),(337,(.cell 160 5))] [.cell 160 5 337 248 6] (.seq (.ai (rG 107 6)) aa8))
def aa_:ak:=(.keep [4,8] [(40,.id 40),(160,.id 160),(337,.id 337)] [] (.seq (.cU (rG 107 10) [(7,8)]) .ret))
def aba:ak:=(.keep [1,2,4] [(24,.id 24),(40,.id 40)] [] (.seq (.ai (rG 107 4)) (.seq (.seq (.ai (rG 107 5)) (.block 0 (.loop aa9))) aa_)))
def abb:ak:=(.seq (.ai (rG 107 0)) (.seq (.seq (.ai (rG 107 1)) (.seq (.ai (rG 107 2)) (.cond (.tmp 14) (.seq (.ai (rG 107 3)) .ret) .skip))) aba))
def Th:aK:=⟨38,abb,[(.cell 4 .true 5),(.tmp 5),(.tmp 6)],some ([4,5,6],[(40,.id 40),(338,(.slot 5 none))],[]),false⟩
theorem amS:aW Go.Proofs.Tryz.prog cz 107=some (aP Th):=by kernel_rfl
def abc:ak:=(.seq (.ai (rG 186 0)) (.seq (.ai (rG 186 1)) .ret))
def abd:aK:=⟨6,abc,[(.tmp 2)],some ([2],[],[]),false⟩
theorem amT:aW Go.Proofs.Tryz.prog cz 186=some (aP abd):=by kernel_rfl
def abe:ak:=(.keep [0,1,7,8] [] [] (.seq (.block 1 (.seq (.ai (rG 210 3)) (.seq (.ai (rG 210 4)) (.cond (.tmp 16) (.seq (.ai (rG 210 5)) .ret) .skip)))) (.ai (rG 210 6))))
def abf:ak:=(.keep [0,1,7,8,9] [] [] (.seq (.cond (.tmp 9) .skip (.keep [] [] [] (.exit 0))) abe))
def abg:ak:=(.keep [0,1,7,8] [] [] (.seq (.ai (rG 210 2)) abf))
def abh:ak:=(.seq (.ai (rG 210 0)) (.seq (.seq (.ai (rG 210 1)) (.block 0 (.loop abg))) (.seq (.ai (rG 210 7)) .ret)))
def Kb:aK:=⟨19,abh,[(.tmp 4)],some ([4],[],[]),false⟩
theorem amU:aW Go.Proofs.Tryz.prog cz 210=some (aP Kb):=by kernel_rfl
def abj:ak:=(.seq (.ai (rG 185 0)) (.seq (.ai (rG 185 1)) .ret))
def abk:aK:=⟨9,abj,[(.tmp 4)],some ([4],[],[]),false⟩
theorem amV:aW Go.Proofs.Tryz.prog cz 185=some (aP abk):=by kernel_rfl
def abl:ak:=(.keep [5,6,7] [] [] (.seq (.block 1 (.seq (.ai (rG 145 3)) (.seq (.ai (rG 145 4)) (.cond (.tmp 25) (.seq (.ai (rG 145 5)) .ret) .skip)))) (.ai (rG 145 6))))
def abm:ak:=(.keep [5,6,7,8] [] [] (.seq (.cond (.tmp 8) .skip (.keep [] [] [] (.exit 0))) abl))
def abn:ak:=(.keep [5,6,7] [] [] (.seq (.ai (rG 145 2)) abm))
def abo:ak:=(.seq (.ai (rG 145 0)) (.seq (.seq (.ai (rG 145 1)) (.block 0 (.loop abn))) (.seq (.ai (rG 145 7)) .ret)))
def Kc:aK:=⟨27,abo,[(.tmp 2)],some ([2],[],[]),false⟩
theorem amW:aW Go.Proofs.Tryz.prog cz 145=some (aP Kc):=by kernel_rfl
def abp:ak:=(.keep [0,1,5] [(48,.id 48)] [] (.seq (.ai (rG 236 8)) (.cond (.tmp 22) (.seq (.ai (rG 236 9)) .ret) .skip)))
def au7:ak:=(.seq (.ai (rG 236 2)) (.cond (.tmp 7) (.seq (.ai (rG 236 3)) .ret) (.seq (.ai (rG 236 4)) (.cond (.tmp 12) (.seq (.ai (rG 236 5)) .ret) (.seq (.ai (rG 236 6)) (.cond (.tmp 15) (.seq (.ai (rG 236 7)) .ret) abp))))))
def abq:ak:=(.seq (.ai (rG 236 10)) .ret)
def abr:ak:=(.seq (.ai (rG 236 0)) (.seq (.ai (rG 236 1)) (.seq (.block 0 au7) abq)))
def abt:aK:=⟨39,abr,[(.tmp 4)],some ([4],[],[]),false⟩
theorem amX:aW Go.Proofs.Tryz.prog cz 236=some (aP abt):=by kernel_rfl
def abu:ak:=(.seq (.ai (rG 211 0)) (.seq (.seq (.ai (rG 211 1)) (.cond (.tmp 8) (.seq (.ai (rG 211 2)) .ret) .skip)) (.seq (.ai (rG 211 3)) .ret)))
def abv:aK:=⟨12,abu,[(.tmp 4),(.tmp 5)],some ([4,5],[],[]),false⟩
theorem amY:aW Go.Proofs.Tryz.prog cz 211=some (aP abv):=by kernel_rfl
def abw:ak:=(.seq (.ai (rG 237 0)) (.seq (.ai (rG 237 1)) .ret))
def abx:aK:=⟨12,abw,[(.tmp 6)],some ([6],[],[]),false⟩
theorem amZ:aW Go.Proofs.Tryz.prog cz 237=some (aP abx):=by kernel_rfl
def aby:ak:=(.seq (.ai (rG 212 0)) (.ai (rG 212 1)))
def abz:aK:=⟨21,aby,[],some ([2000000],[(0,.id 0),(1,.id 1),(2,.id 2),(3,.id 3)],[]),false⟩
theorem am0:aW Go.Proofs.Tryz.prog cz 212=some (aP abz):=by kernel_rfl
def abA:ak:=(.seq (.ai (rG 214 0)) (.seq (.ai (rG 214 1)) .ret))
def abB:aK:=⟨13,abA,[(.tmp 4)],some ([4],[],[]),false⟩
theorem am1:aW Go.Proofs.Tryz.prog cz 214=some (aP abB):=by kernel_rfl
def abC:ak:=(.seq (.ai (rG 238 0)) (.seq (.ai (rG 238 1)) .ret))
def Ti:aK:=⟨9,abC,[(.tmp 4)],some ([4],[(72,.id 72)],[]),false⟩
theorem am2:aW Go.Proofs.Tryz.prog cz 238=some (aP Ti):=by kernel_rfl
def abD:ak:=(.seq (.ai (rG 216 0)) (.seq (.ai (rG 216 1)) .ret))
def abE:aK:=⟨10,abD,[(.cell 2 .true 3)],some ([2],[(24,.id 24)],[]),false⟩
theorem am3:aW Go.Proofs.Tryz.prog cz 216=some (aP abE):=by kernel_rfl
def abF:ak:=(.seq (.ai (rG 161 0)) (.seq (.ai (rG 161 1)) .ret))
def abG:aK:=⟨5,abF,[(.cell 2 .true 4)],some ([2],[(24,.id 24)],[]),false⟩
theorem am4:aW Go.Proofs.Tryz.prog cz 161=some (aP abG):=by kernel_rfl
def au8:ak:=(.seq (.ai (rG 235 4)) (.seq (.ai (rG 235 5)) (.seq (.ai (rG 235 6)) (.seq (.ai (rG 235 7)) (.seq (.ai (rG 235 8)) (.seq (.ai (rG 235 9)) (.seq (.ai (rG 235 10)) (.seq (.ai (rG 235 11)) .ret))))))))
def abH:ak:=(.seq (.ai (rG 235 0)) (.seq (.ai (rG 235 1)) (.seq (.ai (rG 235 2)) (.seq (.ai (rG 235 3)) au8))))
def abI:aK:=⟨51,abH,[(.tmp 4),(.tmp 5)],some ([4,5],[],[]),false⟩
theorem am5:aW Go.Proofs.Tryz.prog cz 235=some (aP abI):=by kernel_rfl
def abJ:ak:=(.keep [0,1] [] [] (.seq (.ai (rG 205 3)) (.seq (.ai (rG 205 4)) .ret)))
def abK:ak:=(.seq (.ai (rG 205 0)) (.seq (.cond (.const (.bool .false)) (.seq (.ai (rG 205 1)) (.seq (.ai (rG 205 2)) .ret)) .skip) abJ))
def abL:aK:=⟨30,abK,[(.tmp 4),(.tmp 5)],some ([4,5],[],[]),false⟩
theorem am6:aW Go.Proofs.Tryz.prog cz 205=some (aP abL):=by kernel_rfl
def abM:ak:=(.keep [7,8] [(248,.id 248)] [] (.block 1 (.cU (rG 177 9) [])))
def abN:ak:=(.keep [7,8] [(248,.id 248)] [] (.seq (.seq (.ai (rG 177 8)) (.cond (.tmp 37) .skip (.keep [7] [(248,.id 248)] [] (.exit 0)))) abM))
def abO:ak:=(.keep [0,6] [] [] (.seq (.ai (rG 177 6)) (.seq (.ai (rG 177 7)) (.seq (.block 0 (.loop abN)) (.seq (.ai (rG 177 10)) .ret)))))
def abP:ak:=(.keep [0,1] [] [] (.seq (.ai (rG 177 3)) (.seq (.seq (.ai (rG 177 4)) (.cond (.tmp 26) (.ai (rG 177 5)) .skip)) abO)))
def abQ:ak:=(.seq (.ai (rG 177 0)) (.seq (.seq (.ai (rG 177 1)) (.cond (.tmp 10) (.ai (rG 177 2)) .skip)) abP))
def Tj:aK:=⟨48,abQ,[(.tmp 4)],some ([4],[(248,.id 248)],[]),false⟩
theorem am7:aW Go.Proofs.Tryz.prog cz 177=some (aP Tj):=by kernel_rfl
def abR:ak:=(.seq (.ai (rG 138 0)) (.seq (.ai (rG 138 1)) .ret))
def c138:aK:=⟨17,abR,[(.cell 6 .true 3)],some ([6],[(56,.id 56),(128,.id 128)],[]),false⟩
theorem am8:aW Go.Proofs.Tryz.prog cz 138=some (aP c138):=by kernel_rfl
def abS:ak:=(.seq (.ai (rG 251 0)) (.seq (.ai (rG 251 1)) .ret))
def Tk:aK:=⟨8,abS,[(.tmp 2)],some ([2],[(56,.id 56)],[]),false⟩
theorem am9:aW Go.Proofs.Tryz.prog cz 251=some (aP Tk):=by kernel_rfl
def abT:ak:=(.keep [0,1,2,7,11,12] [(1,.id 1),(3,.id 3),(2,.id 2),(0,.id 0),(64,.id 64)] [] (.ai (rG 250 8)))
def abU:ak:=(.ai (rG 250 9))
def abV:ak:=(.keep [0,1,2,7,11,12] [(1,.id 1),(3,.id 3),(2,.id 2),(0,.id 0),(64,.id 64)] [] (.seq (.block 1 (.seq (.ai (rG 250 4)) (.seq (.ai (rG 250 5)) (.seq (.ai (rG 250 6)) (.cond (.tmp 25) (.ai (rG 250 7)) abT))))) abU))
def abW:ak:=(.keep [0,1,2,7,11,12,13] [(1,.id 1),(3,.id 3),(2,.id 2),(0,.id 0),(64,.id 64)] [] (.seq (.cond (.tmp 13) .skip (.keep [7] [(1,.id 1),(3,.id 3),(2,.id 2),(0,.id 0),(64,.id 64)] [] (.exit 0))) abV))
def abX:ak:=(.keep [0,1,2,7,11,12] [(1,.id 1),(3,.id 3),(2,.id 2),(0,.id 0),(64,.id 64)] [] (.seq (.ai (rG 250 3)) abW))
def abY:ak:=(.seq (.ai (rG 250 0)) (.seq (.ai (rG 250 1)) (.seq (.seq (.ai (rG 250 2)) (.block 0 (.loop abX))) (.seq (.ai (rG 250 10)) .ret))))
def N3:aK:=⟨40,abY,[(.tmp 6)],some ([6,2000000],[(1,.id 1),(3,.id 3),(2,.id 2),(0,.id 0),(64,.id 64)],[]),false⟩
theorem am_:aW Go.Proofs.Tryz.prog cz 250=some (aP N3):=by kernel_rfl
def abZ:ak:=(.keep [1,2,3,5,9,10,11] [(0,.id 0),(48,.id 48),(80,.id 80),(88,.id 88)] [] (.seq (.block 1 (.ai (rG 239 4))) (.ai (rG 239 5))))
def ab0:ak:=(.keep [1,2,3,5,9,10,11] [(0,.id 0),(48,.id 48),(80,.id 80),(88,.id 88)] [] (.seq (.seq (.ai (rG 239 3)) (.cond (.tmp 17) .skip (.keep [1,3,5,9,10] [(0,.id 0),(48,.id 48),(80,.id 80),(88,.id 88)] [] (.exit 0)))) abZ))
def ab1:ak:=(.keep [1,5,32,33,34] [(0,.id 0),(48,.id 48),(256,.id 256)] [] (.seq (.block 3 (.seq (.ai (rG 239 9)) (.ai (rG 239 10)))) (.ai (rG 239 11))))
def ab2:ak:=(.keep [1,5,32,33,34,35] [(0,.id 0),(48,.id 48),(256,.id 256)] [] (.seq (.cond (.tmp 35) .skip (.keep [] [(0,.id 0)] [] (.exit 2))) ab1))
def ab3:ak:=(.keep [1,5,32,33,34] [(0,.id 0),(48,.id 48),(256,.id 256)] [] (.seq (.ai (rG 239 8)) ab2))
def ab4:ak:=(.keep [1,3,5,9,10] [(0,.id 0),(48,.id 48),(80,.id 80),(88,.id 88)] [] (.seq (.ai (rG 239 6)) (.seq (.ai (rG 239 7)) (.block 2 (.loop ab3)))))
def ab5:ak:=(.seq (.ai (rG 239 0)) (.seq (.ai (rG 239 1)) (.seq (.seq (.ai (rG 239 2)) (.block 0 (.loop ab0))) ab4)))
def ab6:aK:=⟨47,ab5,[],some ([2000000],[(0,.id 0)],[]),false⟩
theorem ana:aW Go.Proofs.Tryz.prog cz 239=some (aP ab6):=by kernel_rfl
def ab7:ak:=(.keep [0,1000001,1000002,1000003] [(0,.id 0),(1,.id 1),(2,.id 2),(3,.id 3)] [] (.cU (rG 213 6) [(4,16),(9,16),(14,16)]))
def au9:ak:=(.cond (.tmp 6) (.seq (.seq (.ai (rG 213 2)) (.cond (.tmp 29) (.seq (.cU (rG 213 3) [(5,11),(5,13)]) (.seq (.ai (rG 213 4)) (.cond (.tmp 54) (.ai (rG 213 5)) .skip))) .skip)) ab7) (.seq (.cU (rG 213 7) []) (.cond (.tmp 83) (.ai (rG 213 8)) .skip)))
def ab8:ak:=(.seq (.ai (rG 213 0)) (.block 0 (.seq (.cU (rG 213 1) []) au9)))
def ab9:aK:=⟨106,ab8,[],some ([1000001,1000002,1000003],[(0,.id 0),(1,.id 1),(2,.id 2),(3,.id 3)],[]),false⟩
theorem anb:aW Go.Proofs.Tryz.prog cz 213=some (aP ab9):=by kernel_rfl
def ab_:ak:=(.seq (.ai (rG 241 0)) (.seq (.ai (rG 241 1)) .ret))
def acd:aK:=⟨4,ab_,[(.cell 1 .true 4)],some ([1],[(16,.id 16)],[]),false⟩
theorem anc:aW Go.Proofs.Tryz.prog cz 241=some (aP acd):=by kernel_rfl
def ace:ak:=(.keep [0,1,2,7,11,12] [(64,.id 64)] [] (.ai (rG 240 8)))
def acf:ak:=(.ai (rG 240 9))
def acg:ak:=(.keep [0,1,2,7,11,12] [(64,.id 64)] [] (.seq (.block 1 (.seq (.ai (rG 240 4)) (.seq (.ai (rG 240 5)) (.seq (.ai (rG 240 6)) (.cond (.tmp 25) (.ai (rG 240 7)) ace))))) acf))
def ach:ak:=(.keep [0,1,2,7,11,12,13] [(64,.id 64)] [] (.seq (.cond (.tmp 13) .skip (.keep [7] [(64,.id 64)] [] (.exit 0))) acg))
def aci:ak:=(.keep [0,1,2,7,11,12] [(64,.id 64)] [] (.seq (.ai (rG 240 3)) ach))
def acj:ak:=(.seq (.ai (rG 240 0)) (.seq (.ai (rG 240 1)) (.seq (.seq (.ai (rG 240 2)) (.block 0 (.loop aci))) (.seq (.ai (rG 240 10)) .ret))))
def Tl:aK:=⟨40,acj,[(.tmp 6)],some ([6],[(64,.id 64)],[]),false⟩
theorem ane:aW Go.Proofs.Tryz.prog cz 240=some (aP Tl):=by kernel_rfl
def ack:ak:=(.keep [0,2,7,8] [(0,.id 0),(48,.id 48)] [] (.seq (.block 1 (.seq (.ai (rG 116 3)) (.seq (.ai (rG 116 4)) (.cond (.tmp 13) (.ai (rG 116 5)) .skip)))) (.ai (rG 116 6))))
def acm:ak:=(.keep [0,2,7,8,9] [(0,.id 0),(48,.id 48)] [] (.seq (.cond (.tmp 9) .skip (.keep [] [(0,.id 0)] [] (.exit 0))) ack))
def acn:ak:=(.keep [0,2,7,8] [(0,.id 0),(48,.id 48)] [] (.seq (.ai (rG 116 2)) acm))
def aco:ak:=(.seq (.ai (rG 116 0)) (.seq (.ai (rG 116 1)) (.block 0 (.loop acn))))
def acp:aK:=⟨24,aco,[],some ([2000000],[(0,.id 0)],[]),false⟩
theorem anf:aW Go.Proofs.Tryz.prog cz 116=some (aP acp):=by kernel_rfl
def acq:ak:=(.seq (.ai (rG 215 0)) (.seq (.ai (rG 215 1)) (.seq (.cU (rG 215 2) [(3,10)]) (.ai (rG 215 3)))))
def acr:aK:=⟨30,acq,[],some ([2000000],[(0,.id 0)],[]),false⟩
theorem ang:aW Go.Proofs.Tryz.prog cz 215=some (aP acr):=by kernel_rfl
def acs:ak:=(.seq (.ai (rG 217 0)) (.seq (.ai (rG 217 1)) (.seq (.ai (rG 217 2)) (.seq (.seq (.ai (rG 217 3)) (.cond (.tmp 22) (.ai (rG 217 4)) .skip)) (.ai (rG 217 5))))))
def acu:aK:=⟨31,acs,[],some ([2000000],[(0,.id 0)],[]),false⟩
theorem anh:aW Go.Proofs.Tryz.prog cz 217=some (aP acu):=by kernel_rfl
def acv:ak:=(.keep [0,1,1000001,1000002,1000003] [(0,.id 0),(1,.id 1),(2,.id 2),(3,.id 3)] [] .skip)
def acw:ak:=(.keep [0,1,4,5,1000001,1000002,1000003] [(0,.id 0),(1,.id 1),(2,.id 2),(3,.id 3)] [] .skip)
def acy:ak:=(.keep [0,1,4,5,1000001,1000002,1000003] [(0,.id 0),(1,.id 1),(2,.id 2),(3,.id 3)] [] (.seq (.cU (rG 187 13) []) (.seq (.ai (rG 187 14)) (.seq (.ai (rG 187 15)) (.cond (.tmp 142) (.ai (rG 187 16)) .skip)))))
def Qf:ak:=(.keep [0,1,4,5,1000001,1000002,1000003] [(0,.id 0),(1,.id 1),(2,.id 2),(3,.id 3)] [] (.seq (.seq (.ai (rG 187 11)) (.cond (.tmp 78) (.cU (rG 187 12) [(4,23),(9,23),(14,23),(20,23)]) .skip)) acy))
def acz:ak:=(.keep [0,1,4,5,1000001,1000002,1000003] [(0,.id 0),(1,.id 1),(2,.id 2),(3,.id 3)] [] (.seq (.seq (.ai (rG 187 7)) (.cond (.tmp 69) (.seq (.seq (.ai (rG 187 8)) (.cond (.tmp 72) .ret .skip)) (.seq (.ai (rG 187 9)) (.ai (rG 187 10)))) acw)) Qf))
def acA:ak:=(.keep [0,1,4,5,1000001,1000002,1000003] [(0,.id 0),(1,.id 1),(2,.id 2),(3,.id 3)] [] (.seq (.seq (.ai (rG 187 4)) (.cond (.tmp 54) (.seq (.ai (rG 187 5)) (.ai (rG 187 6))) .skip)) acz))
def Qg:ak:=(.keep [0,1,1000001,1000002,1000003] [(0,.id 0),(1,.id 1),(2,.id 2),(3,.id 3)] [] (.seq (.cU (rG 187 2) [(1,7)]) (.seq (.seq (.ai (rG 187 3)) (.cond (.tmp 49) .ret .skip)) acA)))
def acB:ak:=(.seq (.seq (.ai (rG 187 0)) (.cond (.tmp 11) (.cU (rG 187 1) []) acv)) Qg)
def acC:aK:=⟨154,acB,[],some ([1000001,1000002,1000003],[(0,.id 0),(1,.id 1),(2,.id 2),(3,.id 3)],[]),false⟩
theorem ani:aW Go.Proofs.Tryz.prog cz 187=some (aP acC):=by kernel_rfl
def acD:ak:=(.seq (.ai (rG 242 0)) (.seq (.ai (rG 242 1)) .ret))
def acE:aK:=⟨15,acD,[(.tmp 4)],some ([4],[],[]),false⟩
theorem anj:aW Go.Proofs.Tryz.prog cz 242=some (aP acE):=by kernel_rfl
def acF:ak:=(.keep [1,2,3,4,10] [(40,.id 40)] [] (.seq (.ai (rG 218 8)) (.cond (.tmp 46) (.seq (.ai (rG 218 9)) (.seq (.ai (rG 218 10)) (.cond (.tmp 50) (.seq (.ai (rG 218 11)) .ret) .skip))) .skip)))
def acG:ak:=(.keep [1,2,3,4,10] [(40,.id 40)] [] (.block 1 (.seq (.seq (.ai (rG 218 5)) (.seq (.ai (rG 218 6)) (.cond (.tmp 41) (.seq (.ai (rG 218 7)) .ret) .skip))) acF)))
def acH:ak:=(.keep [1,2,3,4,10] [(40,.id 40)] [] (.seq (.seq (.ai (rG 218 4)) (.cond (.tmp 36) .skip (.keep [1] [] [] (.exit 0)))) acG))
def acI:ak:=(.keep [1,2,3,4] [(40,.id 40)] [] (.seq (.seq (.ai (rG 218 3)) (.block 0 (.loop acH))) (.seq (.ai (rG 218 12)) .ret)))
def acJ:ak:=(.seq (.ai (rG 218 0)) (.seq (.seq (.ai (rG 218 1)) (.cond (.tmp 33) (.seq (.ai (rG 218 2)) .ret) .skip)) acI))
def Ke:aK:=⟨53,acJ,[(.tmp 8),(.tmp 9)],some ([8,9],[],[]),false⟩
theorem ank:aW Go.Proofs.Tryz.prog cz 218=some (aP Ke):=by kernel_rfl
def acK:ak:=(.keep [0,6,42,1000001,1000002,1000003] [(0,.id 0),(1,.id 1),(2,.id 2),(3,.id 3)] [] (.cond (.tmp 42) (.seq (.ai (rG 188 9)) (.seq (.ai (rG 188 10)) (.cond (.tmp 49) (.ai (rG 188 11)) .skip))) (.seq (.ai (rG 188 12)) (.cond (.tmp 52) (.ai (rG 188 13)) (.seq (.ai (rG 188 14)) (.cond (.tmp 56) (.ai (rG 188 15)) (.seq (.ai (rG 188 16)) (.cond (.tmp 62) (.ai (rG 188 17)) .skip))))))))
def au_:ak:=(.seq (.ai (rG 188 3)) (.cond (.tmp 17) (.seq (.cU (rG 188 4) []) (.ai (rG 188 5))) (.seq (.seq (.ai (rG 188 6)) (.cond (.tmp 42) .skip (.seq (.ai (rG 188 7)) (.cond (.tmp 42) .skip (.ai (rG 188 8)))))) acK)))
def acL:ak:=(.seq (.ai (rG 188 0)) (.block 0 (.seq (.ai (rG 188 1)) (.cond (.tmp 7) (.ai (rG 188 2)) au_))))
def acM:aK:=⟨68,acL,[],some ([1000001,1000002,1000003],[(0,.id 0),(1,.id 1),(2,.id 2),(3,.id 3)],[]),false⟩
theorem anl:aW Go.Proofs.Tryz.prog cz 188=some (aP acM):=by kernel_rfl
def acN:ak:=(.seq (.ai (rG 219 0)) (.block 0 (.seq (.cU (rG 219 1) []) (.cond (.tmp 6) (.cU (rG 219 2) [(4,16),(9,16),(14,16)]) (.seq (.ai (rG 219 3)) (.cond (.tmp 36) (.ai (rG 219 4)) .skip))))))
def acO:aK:=⟨52,acN,[],some ([1000001,1000002,1000003],[(0,.id 0),(1,.id 1),(2,.id 2),(3,.id 3)],[]),false⟩
theorem anm:aW Go.Proofs.Tryz.prog cz 219=some (aP acO):=by kernel_rfl
def acP:ak:=(.keep [1,2,3,6] [(32,.id 32),(56,.id 56)] [] (.seq (.cU (rG 220 3) []) (.seq (.seq (.ai (rG 220 4)) (.cond (.tmp 26) (.cU (rG 220 5) []) .skip)) (.seq (.ai (rG 220 6)) .ret))))
def acQ:ak:=(.seq (.ai (rG 220 0)) (.seq (.seq (.ai (rG 220 1)) (.cond (.tmp 13) (.seq (.ai (rG 220 2)) .ret) .skip)) acP))
def acR:aK:=⟨39,acQ,[(.cell 6 .true 4),(.tmp 7)],some ([6,7],[(56,.id 56)],[]),false⟩
theorem ann:aW Go.Proofs.Tryz.prog cz 220=some (aP acR):=by kernel_rfl
def acS:ak:=(.cU (rG 221 0) [(5,17),(10,17),(15,17),(17,22),(17,27)])
def acT:aK:=⟨34,acS,[],some ([2000000],[(0,.id 0),(1,.id 1),(2,.id 2),(3,.id 3)],[]),false⟩
theorem ano:aW Go.Proofs.Tryz.prog cz 221=some (aP acT):=by kernel_rfl
def acU:ak:=(.seq (.ai (rG 223 0)) (.seq (.ai (rG 223 1)) (.cond (.tmp 16) (.ai (rG 223 2)) .skip)))
def acV:aK:=⟨27,acU,[],some ([2000000],[(0,.id 0),(1,.id 1),(2,.id 2),(3,.id 3)],[]),false⟩
theorem anp:aW Go.Proofs.Tryz.prog cz 223=some (aP acV):=by kernel_rfl
def acW:ak:=(.seq (.ai (rG 222 0)) (.seq (.cU (rG 222 1) []) (.seq (.cU (rG 222 2) [(6,12),(8,12),(8,16)]) (.seq (.ai (rG 222 3)) (.ai (rG 222 4))))))
def acX:aK:=⟨48,acW,[],some ([2000000],[(0,.id 0),(1,.id 1),(2,.id 2),(3,.id 3)],[]),false⟩
theorem anq:aW Go.Proofs.Tryz.prog cz 222=some (aP acX):=by kernel_rfl
def acY:ak:=(.keep [0,1,5,6] [(48,.id 48),(56,.id 56)] [.cell 56 2 0 0 1] (.seq (.seq (.ai (rG 101 4)) (.seq (.ai (rG 101 5)) (.cond (.tmp 20) (.seq (.ai (rG 101 6)) .ret) .skip))) (.seq (.ai (rG 101 7)) .ret)))
def acZ:ak:=(.seq (.ai (rG 101 0)) (.seq (.seq (.ai (rG 101 1)) (.seq (.ai (rG 101 2)) (.cond (.tmp 14) (.seq (.ai (rG 101 3)) .ret) .skip))) acY))
def Tm:aK:=⟨27,acZ,[(.cell 6 .true 3),(.tmp 7)],some ([6,7],[(56,.id 56),(216,(.cell 56 2))],[.cell 56 2 216 87 4]),false⟩
theorem anr:aW Go.Proofs.Tryz.prog cz 101=some (aP Tm):=by kernel_rfl
def ac0:ak:=(.keep [0,1,2] [(8,.id 8),(16,.id 16)] [] (.seq (.block 1 (.cU (rG 102 4) [])) (.ai (rG 102 5))))
def ac1:ak:=(.keep [0,1,2] [(8,.id 8),(16,.id 16)] [] (.seq (.seq (.ai (rG 102 3)) (.cond (.tmp 4) .skip (.keep [0,1] [(8,.id 8),(16,.id 16)] [] (.exit 0)))) ac0))
def ac2:ak:=(.seq (.ai (rG 102 0)) (.seq (.ai (rG 102 1)) (.seq (.seq (.ai (rG 102 2)) (.block 0 (.loop ac1))) (.seq (.ai (rG 102 6)) .ret))))
def ac3:aK:=⟨19,ac2,[(.cell 0 .true 4)],some ([0],[(8,.id 8)],[]),false⟩
theorem ans:aW Go.Proofs.Tryz.prog cz 102=some (aP ac3):=by kernel_rfl
def ant:ak:=(.keep [1,4,6] [(40,.id 40),(56,.id 56),(112,.id 112)] [.cell 40 2 0 0 1,.cell 40 30 0 0 1,.cell 40 32 0 0 1] (.seq (.ai (rG 68 4)) (.seq (.cU (rG 68 5) [(0,2),(0,4),(2,5),(4,5),(2,6),(4,6)]) .ret)))
def anu:ak:=(.seq (.ai (rG 68 0)) (.seq (.ai (rG 68 1)) (.seq (.seq (.ai (rG 68 2)) (.cond (.tmp 17) (.seq (.ai (rG 68 3)) .ret) .skip)) ant)))
def c68:aK:=⟨30,anu,[(.cell 4 .true 33),(.tmp 5)],some ([4,5],[(40,.id 40),(273,(.cell 40 2)),(192,(.cell 40 30))],[.cell 40 2 273 87 4,.cell 40 30 192 87 4]),false⟩
theorem ava:aW Go.Proofs.Tryz.prog cz 68=some (aP c68):=by kernel_rfl
def ac4:ak:=(.cU (rG 224 0) [])
def ac5:aK:=⟨21,ac4,[],some ([1000001,1000002,1000003],[(0,.id 0),(1,(.cell 0 2)),(2,(.cell 0 30)),(3,.id 3)],[]),false⟩
theorem anw:aW Go.Proofs.Tryz.prog cz 224=some (aP ac5):=by kernel_rfl
def ac6:ak:=(.keep [0,1,4,47,1000001,1000002,1000003] [(0,.id 0),(1,.id 1),(2,.id 2),(3,.id 3)] [] (.cond (.tmp 47) (.ai (rG 189 16)) (.seq (.ai (rG 189 17)) (.cond (.tmp 54) (.ai (rG 189 18)) .skip))))
def avb:ak:=(.seq (.ai (rG 189 10)) (.cond (.tmp 39) (.ai (rG 189 11)) (.seq (.ai (rG 189 12)) (.cond (.tmp 43) (.ai (rG 189 13)) (.seq (.seq (.ai (rG 189 14)) (.cond (.tmp 47) .skip (.ai (rG 189 15)))) ac6)))))
def avc:ak:=(.seq (.ai (rG 189 3)) (.cond (.tmp 9) (.seq (.ai (rG 189 4)) (.ai (rG 189 5))) (.seq (.ai (rG 189 6)) (.cond (.tmp 15) (.ai (rG 189 7)) (.seq (.ai (rG 189 8)) (.cond (.tmp 19) (.cU (rG 189 9) []) avb))))))
def ac7:ak:=(.seq (.ai (rG 189 0)) (.block 0 (.seq (.ai (rG 189 1)) (.cond (.tmp 5) (.ai (rG 189 2)) avc))))
def ac8:aK:=⟨58,ac7,[],some ([1000001,1000002,1000003],[(0,.id 0),(1,.id 1),(2,.id 2),(3,.id 3)],[.cell 0 32 3 111 1]),false⟩
theorem anx:aW Go.Proofs.Tryz.prog cz 189=some (aP ac8):=by kernel_rfl
def ac9:ak:=(.seq (.ai (rG 226 0)) (.seq (.seq (.ai (rG 226 1)) (.cond (.tmp 21) (.seq (.ai (rG 226 2)) .ret) .skip)) (.seq (.ai (rG 226 3)) .ret)))
def ac_:aK:=⟨27,ac9,[(.tmp 6)],some ([6],[],[]),false⟩
theorem anz:aW Go.Proofs.Tryz.prog cz 226=some (aP ac_):=by kernel_rfl
def ada:ak:=(.seq (.ai (rG 225 0)) (.seq (.ai (rG 225 1)) .ret))
def adb:aK:=⟨9,ada,[(.tmp 4)],some ([4],[],[]),false⟩
theorem anA:aW Go.Proofs.Tryz.prog cz 225=some (aP adb):=by kernel_rfl
def ade:ak:=(.keep [0,1,4,5] [(0,.id 0),(1,.id 1),(2,.id 2),(3,.id 3)] [] .skip)
def adf:ak:=(.keep [0,1,4,5] [(0,.id 0),(1,.id 1),(2,.id 2),(3,.id 3)] [] .skip)
def Qh:ak:=(.keep [0,1,4,5] [(0,.id 0),(1,.id 1),(2,.id 2),(3,.id 3)] [] (.seq (.ai (rG 243 5)) (.ai (rG 243 6))))
def Qi:ak:=(.keep [0,1,4,5] [(0,.id 0),(1,.id 1),(2,.id 2),(3,.id 3)] [] (.seq (.seq (.cU (rG 243 3) []) (.cond (.tmp 47) (.ai (rG 243 4)) adf)) Qh))
def adg:ak:=(.seq (.cU (rG 243 0) []) (.seq (.seq (.cU (rG 243 1) []) (.cond (.tmp 27) (.ai (rG 243 2)) ade)) Qi))
def adh:aK:=⟨72,adg,[],some ([2000000],[(0,.id 0),(1,.id 1),(2,.id 2),(3,.id 3)],[]),false⟩
theorem anB:aW Go.Proofs.Tryz.prog cz 243=some (aP adh):=by kernel_rfl
def adi:ak:=(.seq (.seq (.ai (rG 244 0)) (.cond (.tmp 7) (.cU (rG 244 1) []) (.ai (rG 244 2)))) (.ai (rG 244 3)))
def adj:aK:=⟨47,adi,[],some ([2000000],[(0,.id 0),(1,.id 1),(2,.id 2),(3,.id 3)],[]),false⟩
theorem anC:aW Go.Proofs.Tryz.prog cz 244=some (aP adj):=by kernel_rfl
def adk:ak:=(.keep [1,2,3,8] [(32,.id 32)] [] (.seq (.ai (rG 245 8)) (.cond (.tmp 32) (.seq (.ai (rG 245 9)) (.seq (.ai (rG 245 10)) (.cond (.tmp 36) (.seq (.ai (rG 245 11)) .ret) .skip))) .skip)))
def adl:ak:=(.keep [1,2,3,8] [(32,.id 32)] [] (.block 1 (.seq (.seq (.ai (rG 245 5)) (.seq (.ai (rG 245 6)) (.cond (.tmp 29) (.seq (.ai (rG 245 7)) .ret) .skip))) adk)))
def adm:ak:=(.keep [1,2,3,8] [(32,.id 32)] [] (.seq (.seq (.ai (rG 245 4)) (.cond (.tmp 25) .skip (.keep [1] [] [] (.exit 0)))) adl))
def adn:ak:=(.keep [1,2,3] [(32,.id 32)] [] (.seq (.seq (.ai (rG 245 3)) (.block 0 (.loop adm))) (.seq (.ai (rG 245 12)) .ret)))
def ado:ak:=(.seq (.ai (rG 245 0)) (.seq (.seq (.ai (rG 245 1)) (.cond (.tmp 22) (.seq (.ai (rG 245 2)) .ret) .skip)) adn))
def Kf:aK:=⟨39,ado,[(.tmp 6),(.tmp 7)],some ([6,7],[],[]),false⟩
theorem anD:aW Go.Proofs.Tryz.prog cz 245=some (aP Kf):=by kernel_rfl
def avd:ak:=(.cond (.tmp 116) (.seq (.cU (rG 227 28) []) (.ai (rG 227 29))) (.seq (.ai (rG 227 30)) (.cond (.tmp 136) (.ai (rG 227 31)) (.seq (.ai (rG 227 32)) (.cond (.tmp 140) (.ai (rG 227 33)) (.seq (.ai (rG 227 34)) .ret))))))
def adp:ak:=(.keep [0,2,4,12,79] [(0,.id 0),(1,.id 1),(2,.id 2),(3,.id 3),(40,.id 40)] [] (.cond (.tmp 79) (.ai (rG 227 23)) (.seq (.ai (rG 227 24)) (.cond (.tmp 90) (.seq (.cU (rG 227 25) []) (.ai (rG 227 26))) (.seq (.ai (rG 227 27)) avd)))))
def adq:ak:=(.keep [0,2,4,12,61] [(0,.id 0),(1,.id 1),(2,.id 2),(3,.id 3),(40,.id 40)] [] (.cond (.tmp 61) (.ai (rG 227 18)) (.seq (.ai (rG 227 19)) (.cond (.tmp 68) (.ai (rG 227 20)) (.seq (.seq (.ai (rG 227 21)) (.cond (.tmp 79) .skip (.ai (rG 227 22)))) adp)))))
def ave:ak:=(.cond (.tmp 46) (.seq (.ai (rG 227 11)) (.ai (rG 227 12))) (.seq (.ai (rG 227 13)) (.cond (.tmp 54) (.seq (.ai (rG 227 14)) (.ai (rG 227 15))) (.seq (.seq (.ai (rG 227 16)) (.cond (.tmp 61) .skip (.ai (rG 227 17)))) adq))))
def avf:ak:=(.seq (.ai (rG 227 4)) (.cond (.tmp 18) (.ai (rG 227 5)) (.seq (.ai (rG 227 6)) (.cond (.tmp 24) (.ai (rG 227 7)) (.seq (.ai (rG 227 8)) (.cond (.tmp 35) (.ai (rG 227 9)) (.seq (.ai (rG 227 10)) ave)))))))
def Qj:ak:=(.seq (.ai (rG 227 35)) .ret)
def adr:ak:=(.seq (.ai (rG 227 0)) (.seq (.seq (.ai (rG 227 1)) (.block 0 (.seq (.ai (rG 227 2)) (.cond (.tmp 13) (.ai (rG 227 3)) avf)))) Qj))
def ads:aK:=⟨144,adr,[(.tmp 6)],some ([6,2000000],[(0,.id 0),(1,.id 1),(2,.id 2),(3,.id 3)],[]),false⟩
theorem anE:aW Go.Proofs.Tryz.prog cz 227=some (aP ads):=by kernel_rfl
def adt:ak:=(.keep [0,2,9,1000001,1000002,1000003] [(0,.id 0),(1,.id 1),(2,.id 2),(3,.id 3)] [] (.seq (.ai (rG 228 7)) (.cU (rG 228 8) [(4,18),(9,18),(14,18)])))
def avg:ak:=(.loop (.seq (.ai (rG 228 14)) (.seq (.cond (.tmp 68) .skip (.exit 1)) (.seq (.block 2 (.seq (.ai (rG 228 15)) (.seq (.ai (rG 228 16)) (.cond (.tmp 97) (.ai (rG 228 17)) .skip)))) (.ai (rG 228 18))))))
def avh:ak:=(.seq (.seq (.ai (rG 228 25)) (.cond (.tmp 135) (.ai (rG 228 26)) .skip)) (.seq (.cU (rG 228 27) []) (.cond (.tmp 154) (.seq (.cU (rG 228 28) [(4,17),(9,17),(14,17)]) (.ai (rG 228 29))) .skip)))
def adu:ak:=(.keep [0,2,1000001,1000002,1000003] [(0,.id 0),(1,.id 1),(2,.id 2),(3,.id 3)] [] (.seq (.ai (rG 228 34)) (.cU (rG 228 35) [(4,17),(9,17),(14,17)])))
def adv:ak:=(.keep [0,1,2,176,1000001,1000002,1000003] [(0,.id 0),(1,.id 1),(2,.id 2),(3,.id 3)] [] (.cond (.tmp 176) (.seq (.seq (.ai (rG 228 32)) (.cond (.tmp 180) (.ai (rG 228 33)) .skip)) adu) (.seq (.ai (rG 228 36)) .ret)))
def adw:ak:=(.keep [0,1,2,17,131,1000001,1000002,1000003] [(0,.id 0),(1,.id 1),(2,.id 2),(3,.id 3)] [] (.cond (.tmp 131) avh (.seq (.seq (.ai (rG 228 30)) (.cond (.tmp 176) .skip (.ai (rG 228 31)))) adv)))
def avi:ak:=(.seq (.ai (rG 228 19)) (.cond (.tmp 103) (.ai (rG 228 20)) (.seq (.ai (rG 228 21)) (.cond (.tmp 108) (.cU (rG 228 22) []) (.seq (.seq (.ai (rG 228 23)) (.cond (.tmp 131) .skip (.ai (rG 228 24)))) adw)))))
def anF:ak:=(.cond (.tmp 49) (.seq (.seq (.ai (rG 228 10)) (.cond (.tmp 52) (.ai (rG 228 11)) .skip)) (.seq (.seq (.ai (rG 228 12)) (.cond (.tmp 60) (.exit 0) .skip)) (.seq (.ai (rG 228 13)) (.block 1 avg)))) avi)
def adx:ak:=(.keep [0,1,2,3,9,17,18,1000001,1000002,1000003] [(0,.id 0),(1,.id 1),(2,.id 2),(3,.id 3)] [] (.cond (.tmp 18) (.seq (.seq (.ai (rG 228 5)) (.cond (.tmp 22) (.ai (rG 228 6)) .skip)) adt) (.seq (.ai (rG 228 9)) anF)))
def Ax:ak:=(.seq (.ai (rG 228 37)) .ret)
def ady:ak:=(.seq (.ai (rG 228 0)) (.seq (.ai (rG 228 1)) (.seq (.seq (.ai (rG 228 2)) (.block 0 (.seq (.seq (.ai (rG 228 3)) (.cond (.tmp 18) .skip (.ai (rG 228 4)))) adx))) Ax)))
def adz:aK:=⟨206,ady,[(.tmp 8)],some ([8,1000001,1000002,1000003],[(0,.id 0),(1,.id 1),(2,.id 2),(3,.id 3)],[]),false⟩
theorem anG:aW Go.Proofs.Tryz.prog cz 228=some (aP adz):=by kernel_rfl
def avj:ak:=(.block 3 (.seq (.ai (rG 229 12)) (.seq (.ai (rG 229 13)) (.block 4 (.seq (.ai (rG 229 14)) (.cond (.tmp 56) (.ai (rG 229 15)) (.seq (.ai (rG 229 16)) (.cond (.tmp 63) (.ai (rG 229 17)) .skip))))))))
def avk:ak:=(.cond (.tmp 91) (.seq (.ai (rG 229 24)) (.seq (.seq (.ai (rG 229 25)) (.cond (.tmp 107) (.ai (rG 229 26)) .skip)) (.seq (.ai (rG 229 27)) (.cond (.tmp 116) (.seq (.ai (rG 229 28)) (.ai (rG 229 29))) .skip)))) (.seq (.ai (rG 229 30)) (.cond (.tmp 130) (.ai (rG 229 31)) (.seq (.ai (rG 229 32)) (.cond (.tmp 135) (.seq (.ai (rG 229 33)) (.cond (.tmp 138) (.ai (rG 229 34)) .skip)) .skip)))))
def adA:ak:=(.keep [0,2,3,5,14,45,1000001,1000002,1000003] [(0,.id 0),(1,.id 1),(2,.id 2),(3,.id 3),(48,.id 48)] [] (.cond (.tmp 45) (.seq (.ai (rG 229 10)) (.block 2 (.loop (.seq (.ai (rG 229 11)) (.seq (.cond (.tmp 52) .skip (.exit 2)) (.seq avj (.ai (rG 229 18)))))))) (.seq (.ai (rG 229 19)) (.cond (.tmp 71) (.seq (.cU (rG 229 20) [(4,11),(6,11),(7,11)]) (.seq (.ai (rG 229 21)) (.cond (.tmp 85) (.ai (rG 229 22)) .skip))) (.seq (.ai (rG 229 23)) avk)))))
def avl:ak:=(.cond (.tmp 15) (.seq (.ai (rG 229 3)) (.block 1 (.seq (.ai (rG 229 4)) (.cond (.tmp 18) (.cU (rG 229 5) []) (.seq (.ai (rG 229 6)) (.cond (.tmp 38) (.ai (rG 229 7)) .skip)))))) (.seq (.seq (.ai (rG 229 8)) (.cond (.tmp 45) .skip (.ai (rG 229 9)))) adA))
def adB:ak:=(.seq (.ai (rG 229 0)) (.seq (.ai (rG 229 1)) (.block 0 (.seq (.ai (rG 229 2)) avl))))
def adC:aK:=⟨146,adB,[],some ([1000001,1000002,1000003],[(0,.id 0),(1,.id 1),(2,.id 2),(3,.id 3)],[]),false⟩
theorem anH:aW Go.Proofs.Tryz.prog cz 229=some (aP adC):=by kernel_rfl
def avm:ak:=(.cond (.tmp 57) (.seq (.ai (rG 191 8)) (.block 1 (.loop (.seq (.ai (rG 191 9)) (.seq (.cond (.tmp 75) .skip (.exit 1)) (.seq (.block 2 (.seq (.ai (rG 191 10)) (.ai (rG 191 11)))) (.ai (rG 191 12)))))))) .skip)
def avn:ak:=(.seq (.ai (rG 191 2)) (.cond (.tmp 14) (.seq (.ai (rG 191 3)) (.cond (.tmp 31) (.ai (rG 191 4)) .skip)) (.seq (.ai (rG 191 5)) (.cond (.tmp 37) (.ai (rG 191 6)) (.seq (.ai (rG 191 7)) avm)))))
def adD:ak:=(.seq (.ai (rG 191 0)) (.seq (.cU (rG 191 1) [(2,4)]) (.block 0 avn)))
def adE:aK:=⟨85,adD,[],some ([1000001,1000002,1000003],[(0,.id 0),(1,.id 1),(2,.id 2),(3,.id 3)],[]),false⟩
theorem anI:aW Go.Proofs.Tryz.prog cz 191=some (aP adE):=by kernel_rfl
def avo:ak:=(.cond (.tmp 33) (.ai (rG 146 8)) (.seq (.ai (rG 146 9)) (.cond (.tmp 43) (.seq (.ai (rG 146 10)) (.cond (.tmp 54) (.ai (rG 146 11)) .skip)) (.seq (.ai (rG 146 12)) (.cond (.tmp 62) (.ai (rG 146 13)) .skip)))))
def avp:ak:=(.seq (.ai (rG 146 1)) (.cond (.tmp 4) (.ai (rG 146 2)) (.seq (.ai (rG 146 3)) (.cond (.tmp 12) (.ai (rG 146 4)) (.seq (.ai (rG 146 5)) (.cond (.tmp 20) (.ai (rG 146 6)) (.seq (.ai (rG 146 7)) avo)))))))
def adF:ak:=(.seq (.ai (rG 146 0)) (.block 0 avp))
def adG:aK:=⟨74,adF,[],some ([1000001,1000002,1000003],[(0,.id 0),(1,.id 1),(2,.id 2),(3,.id 3)],[]),false⟩
theorem anJ:aW Go.Proofs.Tryz.prog cz 146=some (aP adG):=by kernel_rfl
def adH:ak:=(.keep [4,9,30,31,32] [(40,.id 40),(240,.id 240),(224,.id 224),(225,.id 225),(226,.id 226)] [] (.seq (.block 1 (.seq (.ai (rG 108 10)) (.ai (rG 108 11)))) (.ai (rG 108 12))))
def adI:ak:=(.keep [4,9,30,31,32,33] [(40,.id 40),(240,.id 240),(224,.id 224),(225,.id 225),(226,.id 226)] [] (.seq (.cond (.tmp 33) .skip (.keep [4,9] [(40,.id 40),(240,.id 240),(224,.id 224),(225,.id 225),(226,.id 226)] [] (.exit 0))) adH))
def adJ:ak:=(.keep [4,9,30,31,32] [(40,.id 40),(240,.id 240),(224,.id 224),(225,.id 225),(226,.id 226)] [] (.seq (.ai (rG 108 9)) adI))
def adK:ak:=(.keep [4,9] [(40,.id 40),(240,.id 240),(224,.id 224),(225,.id 225),(226,.id 226)] [] (.seq (.cU (rG 108 13) [(7,8)]) .ret))
def adM:ak:=(.keep [1,2,4] [(24,.id 24),(40,.id 40)] [] (.seq (.ai (rG 108 7)) (.seq (.seq (.ai (rG 108 8)) (.block 0 (.loop adJ))) adK)))
def adN:ak:=(.keep [1,2,4] [(24,.id 24),(40,.id 40)] [.cell 40 2 0 0 1,.cell 40 30 0 0 1,.cell 40 32 0 0 1] (.seq (.seq (.ai (rG 108 4)) (.seq (.ai (rG 108 5)) (.cond (.tmp 22) (.seq (.ai (rG 108 6)) .ret) .skip))) adM))
def adO:ak:=(.seq (.ai (rG 108 0)) (.seq (.seq (.ai (rG 108 1)) (.seq (.ai (rG 108 2)) (.cond (.tmp 15) (.seq (.ai (rG 108 3)) .ret) .skip))) adN))
def Tn:aK:=⟨48,adO,[(.cell 4 .true 33),(.tmp 5),(.tmp 6)],some ([4,5,6],[(40,.id 40),(420,(.cell 40 2)),(421,(.cell 40 30)),(422,(.cell 40 32))],[]),false⟩
theorem anK:aW Go.Proofs.Tryz.prog cz 108=some (aP Tn):=by kernel_rfl
def adP:ak:=(.keep [2,4,8] [(24,.id 24),(40,.id 40)] [.cell 40 2 0 0 1,.cell 40 30 0 0 1,.cell 40 32 0 0 1] (.seq (.ai (rG 114 2)) .ret))
def adQ:ak:=(.seq (.ai (rG 114 0)) (.seq (.ai (rG 114 1)) adP))
def Tp:aK:=⟨23,adQ,[(.cell 4 .true 33),(.tmp 5),(.tmp 6)],some ([4,5,6],[(40,.id 40),(160,.id 160),(161,.id 161),(162,.id 162)],[]),false⟩
theorem anL:aW Go.Proofs.Tryz.prog cz 114=some (aP Tp):=by kernel_rfl
def anM:ak:=(.keep [0,5] [(0,.id 0)] [] (.ai (rG 77 1)))
def anN:ak:=(.seq (.ai (rG 77 0)) anM)
def Xc:aK:=⟨29,anN,[],some ([],[(0,.id 0)],[]),false⟩
theorem avq:aW Go.Proofs.Tryz.prog cz 77=some (aP Xc):=by kernel_rfl
def aAd:ak:=(.seq (.ai (rG 42 8)) (.seq (.ai (rG 42 9)) (.block 0 (.loop (.seq (.ai (rG 42 10)) (.seq (.cond (.tmp 61) .skip (.exit 0)) (.seq (.block 1 (.seq (.ai (rG 42 11)) (.ai (rG 42 12)))) (.ai (rG 42 13)))))))))
def aAe:ak:=(.seq (.ai (rG 42 4)) (.cond (.tmp 26) (.seq (.cU (rG 42 5) [(4,22),(9,22),(14,22),(16,22)]) (.seq (.seq (.ai (rG 42 6)) (.cond (.tmp 50) (.seq (.ai (rG 42 7)) .ret) .skip)) aAd)) (.ai (rG 42 14))))
def anO:ak:=(.keep [0,7] [(0,.id 0)] [] (.seq (.seq (.ai (rG 42 15)) (.cond (.tmp 74) (.ai (rG 42 16)) .skip)) (.seq (.ai (rG 42 17)) .ret)))
def anP:ak:=(.keep [0,1] [(0,.id 0)] [] (.seq (.ai (rG 42 3)) (.seq aAe anO)))
def anQ:ak:=(.seq (.ai (rG 42 0)) (.seq (.seq (.ai (rG 42 1)) (.cond (.tmp 15) (.seq (.ai (rG 42 2)) .ret) .skip)) anP))
def c42:aK:=⟨78,anQ,[(.tmp 6)],some ([6],[(0,.id 0)],[]),false⟩
theorem avs:aW Go.Proofs.Tryz.prog cz 42=some (aP c42):=by kernel_rfl
def ayk:ak:=(.keep [1,2,7,21] [(24,.id 24)] [] (.cond (.tmp 21) (.seq (.ai (rG 9 4)) .ret) (.seq (.ai (rG 9 5)) (.cond (.tmp 71) (.seq (.ai (rG 9 6)) .ret) (.seq (.ai (rG 9 7)) (.cond (.tmp 75) (.seq (.ai (rG 9 8)) .ret) .skip))))))
def ayl:ak:=(.keep [2,8,9] [(24,.id 24)] [] (.seq (.cU (rG 9 18) [(1,5),(1,11),(7,11)]) .ret))
def aym:ak:=(.keep [2,8] [(24,.id 24)] [] (.seq (.ai (rG 9 15)) (.seq (.seq (.ai (rG 9 16)) (.cond (.tmp 117) (.ai (rG 9 17)) .skip)) ayl)))
def ayn:ak:=(.keep [2,7,8] [(24,.id 24)] [] (.seq (.ai (rG 9 12)) (.seq (.seq (.ai (rG 9 13)) (.cond (.tmp 102) (.seq (.ai (rG 9 14)) .ret) .skip)) aym)))
def anR:ak:=(.keep [2,7] [(24,.id 24)] [] (.seq (.ai (rG 9 9)) (.seq (.seq (.ai (rG 9 10)) (.cond (.tmp 95) (.ai (rG 9 11)) .skip)) ayn)))
def ayo:ak:=(.keep [1,2,6,7] [(24,.id 24)] [] (.seq (.block 0 (.seq (.ai (rG 9 3)) ayk)) anR))
def ayp:ak:=(.keep [1,2,6] [(24,.id 24)] [] (.seq (.ai (rG 9 2)) ayo))
def ayq:ak:=(.seq (.ai (rG 9 0)) (.seq (.ai (rG 9 1)) ayp))
def c9:aK:=⟨135,ayq,[(.tmp 4),(.tmp 5)],some ([4,5],[],[]),false⟩
theorem aAf:aW Go.Proofs.Tryz.prog cz 9=some (aP c9):=by kernel_rfl
def aAg:ak:=(.seq (.seq (.ai (rG 15 16)) (.cond (.tmp 78) (.seq (.ai (rG 15 17)) .ret) .skip)) (.seq (.seq (.ai (rG 15 18)) (.seq (.ai (rG 15 19)) (.cond (.tmp 86) (.ai (rG 15 20)) .skip))) (.seq (.ai (rG 15 21)) .ret)))
def aAh:ak:=(.cond (.tmp 89) (.seq (.cU (rG 15 23) [(4,16),(6,16),(8,16),(10,16),(11,16)]) (.seq (.seq (.ai (rG 15 24)) (.cond (.tmp 108) (.ai (rG 15 25)) .skip)) (.seq (.ai (rG 15 26)) .ret))) .skip)
def aAi:ak:=(.cond (.tmp 47) (.seq (.ai (rG 15 10)) (.seq (.seq (.ai (rG 15 11)) (.cond (.tmp 57) (.ai (rG 15 12)) .skip)) (.seq (.ai (rG 15 13)) .ret))) (.seq (.ai (rG 15 14)) (.cond (.tmp 62) (.seq (.cU (rG 15 15) [(4,13),(6,13),(8,13),(9,13)]) aAg) (.seq (.ai (rG 15 22)) aAh))))
def aAj:ak:=(.cond (.tmp 21) (.seq (.ai (rG 15 4)) .ret) (.seq (.ai (rG 15 5)) (.cond (.tmp 27) (.seq (.ai (rG 15 6)) .ret) (.seq (.ai (rG 15 7)) (.cond (.tmp 37) (.seq (.ai (rG 15 8)) .ret) (.seq (.ai (rG 15 9)) aAi))))))
def anS:ak:=(.seq (.ai (rG 15 0)) (.seq (.ai (rG 15 1)) (.seq (.seq (.ai (rG 15 2)) (.block 0 (.seq (.ai (rG 15 3)) aAj))) (.seq (.ai (rG 15 27)) .ret))))
def c15:aK:=⟨114,anS,[(.tmp 4)],some ([4],[(0,.id 0)],[]),false⟩
theorem avt:aW Go.Proofs.Tryz.prog cz 15=some (aP c15):=by kernel_rfl
def ayr:ak:=(.keep [4,8] [(40,.id 40),(168,.id 168)] [] (.seq (.cU (rG 5 8) [(7,8)]) .ret))
def ays:ak:=(.keep [2,3,4] [(24,.id 24),(32,.id 32),(40,.id 40)] [.cell 40 14 0 0 1,.cell 40 42 0 0 1,.cell 40 44 0 0 1,.cell 40 565 0 0 1,.cell 40 567 0 0 1] (.seq (.ai (rG 5 4)) (.seq (.seq (.ai (rG 5 5)) (.seq (.ai (rG 5 6)) (.cond (.tmp 25) (.seq (.ai (rG 5 7)) .ret) .skip))) ayr)))
def ayt:ak:=(.seq (.ai (rG 5 0)) (.seq (.seq (.ai (rG 5 1)) (.seq (.ai (rG 5 2)) (.cond (.tmp 13) (.seq (.ai (rG 5 3)) .ret) .skip))) ays))
def c5:aK:=⟨37,ayt,[(.cell 4 .true 613),(.tmp 5),(.tmp 6)],some ([4,5,6],[(40,.id 40)],[]),false⟩
theorem aAk:aW Go.Proofs.Tryz.prog cz 5=some (aP c5):=by kernel_rfl
def anT:ak:=(.keep [0,1,12,13] [] [] (.seq (.block 1 (.seq (.ai (rG 37 5)) (.seq (.cU (rG 37 6) []) (.cond (.tmp 24) (.seq (.ai (rG 37 7)) .ret) .skip)))) (.ai (rG 37 8))))
def anU:ak:=(.keep [0,1,12,13,14] [] [] (.seq (.cond (.tmp 14) .skip (.keep [] [] [] (.exit 0))) anT))
def anV:ak:=(.keep [0,1,12,13] [] [] (.seq (.ai (rG 37 4)) anU))
def anW:ak:=(.keep [0,1] [] [] (.seq (.seq (.ai (rG 37 3)) (.block 0 (.loop anV))) (.seq (.ai (rG 37 9)) .ret)))
def anX:ak:=(.seq (.ai (rG 37 0)) (.seq (.seq (.ai (rG 37 1)) (.cond (.tmp 10) (.seq (.ai (rG 37 2)) .ret) .skip)) anW))
def Xd:aK:=⟨26,anX,[(.tmp 4)],some ([4],[],[]),false⟩
theorem avu:aW Go.Proofs.Tryz.prog cz 37=some (aP Xd):=by kernel_rfl
def anY:ak:=(.seq (.ai (rG 34 0)) (.seq (.ai (rG 34 1)) .ret))
def c34:aK:=⟨24,anY,[(.tmp 4)],some ([4],[],[]),false⟩
theorem avw:aW Go.Proofs.Tryz.prog cz 34=some (aP c34):=by kernel_rfl
def anZ:ak:=(.seq (.ai (rG 36 0)) (.seq (.ai (rG 36 1)) .ret))
def c36:aK:=⟨10,anZ,[(.tmp 4)],some ([4],[],[]),false⟩
theorem avy:aW Go.Proofs.Tryz.prog cz 36=some (aP c36):=by kernel_rfl
def an0:ak:=(.keep [1,2,15,16,17] [] [] (.seq (.block 1 (.seq (.ai (rG 35 5)) (.seq (.ai (rG 35 6)) (.seq (.ai (rG 35 7)) (.cond (.tmp 30) (.seq (.ai (rG 35 8)) .ret) .skip))))) (.ai (rG 35 9))))
def an1:ak:=(.keep [1,2,15,16,17,18] [] [] (.seq (.cond (.tmp 18) .skip (.keep [] [] [] (.exit 0))) an0))
def an2:ak:=(.keep [1,2,15,16,17] [] [] (.seq (.ai (rG 35 4)) an1))
def an3:ak:=(.keep [0,1,2] [] [] (.seq (.seq (.ai (rG 35 3)) (.block 0 (.loop an2))) (.seq (.ai (rG 35 10)) .ret)))
def an4:ak:=(.seq (.ai (rG 35 0)) (.seq (.seq (.ai (rG 35 1)) (.cond (.tmp 14) (.seq (.ai (rG 35 2)) .ret) .skip)) an3))
def Xe:aK:=⟨32,an4,[(.tmp 6)],some ([6],[],[]),false⟩
theorem avz:aW Go.Proofs.Tryz.prog cz 35=some (aP Xe):=by kernel_rfl
def an5:ak:=(.seq (.ai (rG 13 0)) (.seq (.ai (rG 13 1)) .ret))
def c13:aK:=⟨108,an5,[(.tmp 4)],some ([4],[],[]),false⟩
theorem avA:aW Go.Proofs.Tryz.prog cz 13=some (aP c13):=by kernel_rfl
def ayu:ak:=(.keep [8,11] [] [] (.seq (.ai (rG 4 8)) .ret))
def an6:ak:=(.keep [2,6,7,10,11] [(24,.id 24),(56,.id 56)] [] (.seq (.ai (rG 4 9)) .ret))
def aDb:ak:=(.seq (.ai (rG 4 1)) (.seq (.ai (rG 4 2)) (.seq (.ai (rG 4 3)) (.seq (.ai (rG 4 4)) (.seq (.ai (rG 4 5)) (.seq (.ai (rG 4 6)) (.seq (.seq (.ai (rG 4 7)) (.cond (.tmp 40) ayu .skip)) an6)))))))
def ayv:ak:=(.seq (.ai (rG 4 0)) aDb)
def c4:aK:=⟨65,ayv,[(.tmp 4)],some ([4],[],[]),false⟩
theorem aAl:aW Go.Proofs.Tryz.prog cz 4=some (aP c4):=by kernel_rfl
def ay:Nat→Option aK
 | 4=>some c4
 | 5=>some c5
 | 7=>some c7
 | 8=>some c8
 | 9=>some c9
 | 10=>some c10
 | 11=>some c11
 | 13=>some c13
 | 14=>some c14
 | 15=>some c15
 | 18=>some c18
 | 19=>some c19
 | 20=>some c20
 | 21=>some c21
 | 22=>some c22
 | 23=>some Qa
 | 24=>some W6
 | 25=>some W7
 | 26=>some c26
 | 27=>some c27
 | 28=>some c28
 | 29=>some c29
 | 30=>some c30
 | 34=>some c34
 | 35=>some Xe
 | 36=>some c36
 | 37=>some Xd
 | 38=>some c38
 | 39=>some Qc
 | 40=>some Qd
 | 42=>some c42
 | 44=>some c44
 | 46=>some c46
 | 50=>some c50
 | 51=>some c51
 | 52=>some c52
 | 53=>some c53
 | 54=>some WQ
 | 55=>some c55
 | 56=>some WR
 | 57=>some Tg
 | 58=>some c58
 | 59=>some c59
 | 60=>some c60
 | 61=>some WT
 | 62=>some c62
 | 63=>some W4
 | 64=>some c64
 | 65=>some c65
 | 68=>some c68
 | 69=>some c69
 | 70=>some Qb
 | 71=>some c71
 | 76=>some c76
 | 77=>some Xc
 | 78=>some c78
 | 84=>some WM
 | 85=>some c85
 | 88=>some c88
 | 89=>some c89
 | 90=>some c90
 | 91=>some c91
 | 92=>some c92
 | 93=>some W5
 | 101=>some Tm
 | 102=>some ac3
 | 103=>some ax9
 | 104=>some ax4
 | 106=>some Ka
 | 107=>some Th
 | 108=>some Tn
 | 114=>some Tp
 | 115=>some aay
 | 116=>some acp
 | 126=>some J7
 | 127=>some aat
 | 138=>some c138
 | 139=>some ax6
 | 140=>some ax5
 | 141=>some ax7
 | 142=>some ax8
 | 144=>some aa6
 | 145=>some Kc
 | 146=>some adG
 | 160=>some aaw
 | 161=>some abG
 | 177=>some Tj
 | 178=>some aaN
 | 179=>some aaH
 | 180=>some aaJ
 | 181=>some aaL
 | 182=>some aaQ
 | 183=>some aaW
 | 184=>some aa1
 | 185=>some abk
 | 186=>some abd
 | 187=>some acC
 | 188=>some acM
 | 189=>some ac8
 | 191=>some adE
 | 205=>some abL
 | 206=>some aaS
 | 207=>some aaU
 | 209=>some aaY
 | 210=>some Kb
 | 211=>some abv
 | 212=>some abz
 | 213=>some ab9
 | 214=>some abB
 | 215=>some acr
 | 216=>some abE
 | 217=>some acu
 | 218=>some Ke
 | 219=>some acO
 | 220=>some acR
 | 221=>some acT
 | 222=>some acX
 | 223=>some acV
 | 224=>some ac5
 | 225=>some adb
 | 226=>some ac_
 | 227=>some ads
 | 228=>some adz
 | 229=>some adC
 | 235=>some abI
 | 236=>some abt
 | 237=>some abx
 | 238=>some Ti
 | 239=>some ab6
 | 240=>some Tl
 | 241=>some acd
 | 242=>some acE
 | 243=>some adh
 | 244=>some adj
 | 245=>some Kf
 | 250=>some N3
 | 251=>some Tk
 | _=>none
theorem afH: ∀f fc,ay f=some fc→yo Go.Proofs.Tryz.prog cz f fc:=by
 intro f fc h
 unfold ay at h
 split at h
 ·cases h;exact aF aAl
 ·cases h;exact aF aAk
 ·cases h;exact aF aAa
 ·cases h;exact aF aAb
 ·cases h;exact aF aAf
 ·cases h;exact aF auU
 ·cases h;exact aF auT
 ·cases h;exact aF avA
 ·cases h;exact aF auD
 ·cases h;exact aF avt
 ·cases h;exact aF atQ
 ·cases h;exact aF atx
 ·cases h;exact aF atW
 ·cases h;exact aF at2
 ·cases h;exact aF aul
 ·cases h;exact aF auo
 ·cases h;exact aF aut
 ·cases h;exact aF auu
 ·cases h;exact aF auw
 ·cases h;exact aF auF
 ·cases h;exact aF auH
 ·cases h;exact aF auJ
 ·cases h;exact aF auQ
 ·cases h;exact aF avw
 ·cases h;exact aF avz
 ·cases h;exact aF avy
 ·cases h;exact aF avu
 ·cases h;exact aF auA
 ·cases h;exact aF auB
 ·cases h;exact aF auC
 ·cases h;exact aF avs
 ·cases h;exact aF auW
 ·cases h;exact aF auS
 ·cases h;exact aF atN
 ·cases h;exact aF atK
 ·cases h;exact aF atP
 ·cases h;exact aF atV
 ·cases h;exact aF atX
 ·cases h;exact aF atZ
 ·cases h;exact aF at0
 ·cases h;exact aF aue
 ·cases h;exact aF aug
 ·cases h;exact aF at9
 ·cases h;exact aF aui
 ·cases h;exact aF auj
 ·cases h;exact aF aun
 ·cases h;exact aF aup
 ·cases h;exact aF aus
 ·cases h;exact aF auO
 ·cases h;exact aF ava
 ·cases h;exact aF auz
 ·cases h;exact aF auy
 ·cases h;exact aF aaj
 ·cases h;exact aF auY
 ·cases h;exact aF avq
 ·cases h;exact aF auM
 ·cases h;exact aF atL
 ·cases h;exact aF atT
 ·cases h;exact aF at4
 ·cases h;exact aF at5
 ·cases h;exact aF aub
 ·cases h;exact aF aud
 ·cases h;exact aF at7
 ·cases h;exact aF auq
 ·cases h;exact aF anr
 ·cases h;exact aF ans
 ·cases h;exact aF aks
 ·cases h;exact aF akn
 ·cases h;exact aF amG
 ·cases h;exact aF amS
 ·cases h;exact aF anK
 ·cases h;exact aF anL
 ·cases h;exact aF amm
 ·cases h;exact aF anf
 ·cases h;exact aF alh
 ·cases h;exact aF alm
 ·cases h;exact aF am8
 ·cases h;exact aF akp
 ·cases h;exact aF ako
 ·cases h;exact aF akq
 ·cases h;exact aF akr
 ·cases h;exact aF amR
 ·cases h;exact aF amW
 ·cases h;exact aF anJ
 ·cases h;exact aF aml
 ·cases h;exact aF am4
 ·cases h;exact aF am7
 ·cases h;exact aF amK
 ·cases h;exact aF amH
 ·cases h;exact aF amI
 ·cases h;exact aF amJ
 ·cases h;exact aF amL
 ·cases h;exact aF amO
 ·cases h;exact aF amQ
 ·cases h;exact aF amV
 ·cases h;exact aF amT
 ·cases h;exact aF ani
 ·cases h;exact aF anl
 ·cases h;exact aF anx
 ·cases h;exact aF anI
 ·cases h;exact aF am6
 ·cases h;exact aF amM
 ·cases h;exact aF amN
 ·cases h;exact aF amP
 ·cases h;exact aF amU
 ·cases h;exact aF amY
 ·cases h;exact aF am0
 ·cases h;exact aF anb
 ·cases h;exact aF am1
 ·cases h;exact aF ang
 ·cases h;exact aF am3
 ·cases h;exact aF anh
 ·cases h;exact aF ank
 ·cases h;exact aF anm
 ·cases h;exact aF ann
 ·cases h;exact aF ano
 ·cases h;exact aF anq
 ·cases h;exact aF anp
 ·cases h;exact aF anw
 ·cases h;exact aF anA
 ·cases h;exact aF anz
 ·cases h;exact aF anE
 ·cases h;exact aF anG
 ·cases h;exact aF anH
 ·cases h;exact aF am5
 ·cases h;exact aF amX
 ·cases h;exact aF amZ
 ·cases h;exact aF am2
 ·cases h;exact aF ana
 ·cases h;exact aF ane
 ·cases h;exact aF anc
 ·cases h;exact aF anj
 ·cases h;exact aF anB
 ·cases h;exact aF anC
 ·cases h;exact aF anD
 ·cases h;exact aF am_
 ·cases h;exact aF am9
 ·cases h
theorem avB:ay 4=some c4:=rfl
theorem avC:ay 5=some c5:=rfl
theorem avD:ay 7=some c7:=rfl
theorem avE:ay 8=some c8:=rfl
theorem avF:ay 9=some c9:=rfl
theorem an7:ay 10=some c10:=rfl
theorem an8:ay 11=some c11:=rfl
theorem an9:ay 13=some c13:=rfl
theorem an_:ay 14=some c14:=rfl
theorem aoa:ay 15=some c15:=rfl
theorem aob:ay 18=some c18:=rfl
theorem aoc:ay 19=some c19:=rfl
theorem aod:ay 20=some c20:=rfl
theorem aoe:ay 21=some c21:=rfl
theorem aof:ay 22=some c22:=rfl
theorem aog:ay 23=some Qa:=rfl
theorem aoh:ay 24=some W6:=rfl
theorem aoi:ay 25=some W7:=rfl
theorem aoj:ay 26=some c26:=rfl
theorem aok:ay 27=some c27:=rfl
theorem aol:ay 28=some c28:=rfl
theorem aom:ay 29=some c29:=rfl
theorem aon:ay 30=some c30:=rfl
theorem aoo:ay 34=some c34:=rfl
theorem aop:ay 35=some Xe:=rfl
theorem aoq:ay 36=some c36:=rfl
theorem aor:ay 37=some Xd:=rfl
theorem aos:ay 38=some c38:=rfl
theorem aot:ay 39=some Qc:=rfl
theorem aou:ay 40=some Qd:=rfl
theorem aov:ay 42=some c42:=rfl
theorem aow:ay 44=some c44:=rfl
theorem aox:ay 46=some c46:=rfl
theorem aoy:ay 50=some c50:=rfl
theorem aoz:ay 51=some c51:=rfl
theorem aoA:ay 52=some c52:=rfl
theorem aoB:ay 53=some c53:=rfl
theorem aoC:ay 54=some WQ:=rfl
theorem aoD:ay 55=some c55:=rfl
theorem aoE:ay 56=some WR:=rfl
theorem aoF:ay 57=some Tg:=rfl
theorem aoG:ay 58=some c58:=rfl
theorem aoH:ay 59=some c59:=rfl
theorem aoI:ay 60=some c60:=rfl
theorem aoJ:ay 61=some WT:=rfl
theorem aoK:ay 62=some c62:=rfl
theorem aoL:ay 63=some W4:=rfl
theorem aoM:ay 64=some c64:=rfl
theorem aoN:ay 65=some c65:=rfl
theorem aoO:ay 68=some c68:=rfl
theorem aoP:ay 69=some c69:=rfl
theorem aoQ:ay 70=some Qb:=rfl
theorem aoR:ay 76=some c76:=rfl
theorem aoS:ay 77=some Xc:=rfl
theorem aoT:ay 78=some c78:=rfl
theorem aoU:ay 84=some WM:=rfl
theorem aoV:ay 85=some c85:=rfl
theorem aoW:ay 88=some c88:=rfl
theorem Tq:ay 89=some c89:=rfl
theorem aoX:ay 90=some c90:=rfl
theorem aoY:ay 91=some c91:=rfl
theorem aoZ:ay 92=some c92:=rfl
theorem ao0:ay 93=some W5:=rfl
theorem afI:ay 101=some Tm:=rfl
theorem afJ:ay 102=some ac3:=rfl
theorem afK:ay 106=some Ka:=rfl
theorem afL:ay 107=some Th:=rfl
theorem afM:ay 108=some Tn:=rfl
theorem afN:ay 114=some Tp:=rfl
theorem afO:ay 115=some aay:=rfl
theorem afP:ay 116=some acp:=rfl
theorem afQ:ay 126=some J7:=rfl
theorem afR:ay 127=some aat:=rfl
theorem afS:ay 138=some c138:=rfl
theorem afT:ay 144=some aa6:=rfl
theorem afU:ay 145=some Kc:=rfl
theorem afV:ay 146=some adG:=rfl
theorem afW:ay 160=some aaw:=rfl
theorem afX:ay 161=some abG:=rfl
theorem afY:ay 177=some Tj:=rfl
theorem afZ:ay 178=some aaN:=rfl
theorem af0:ay 179=some aaH:=rfl
theorem af1:ay 180=some aaJ:=rfl
theorem af2:ay 181=some aaL:=rfl
theorem af3:ay 182=some aaQ:=rfl
theorem af4:ay 183=some aaW:=rfl
theorem af5:ay 184=some aa1:=rfl
theorem af6:ay 185=some abk:=rfl
theorem af7:ay 186=some abd:=rfl
theorem af8:ay 187=some acC:=rfl
theorem af9:ay 188=some acM:=rfl
theorem af_:ay 189=some ac8:=rfl
theorem aga:ay 191=some adE:=rfl
theorem agb:ay 205=some abL:=rfl
theorem agc:ay 206=some aaS:=rfl
theorem agd:ay 207=some aaU:=rfl
theorem age:ay 209=some aaY:=rfl
theorem agf:ay 210=some Kb:=rfl
theorem agh:ay 211=some abv:=rfl
theorem agi:ay 212=some abz:=rfl
theorem agj:ay 213=some ab9:=rfl
theorem agk:ay 214=some abB:=rfl
theorem agl:ay 215=some acr:=rfl
theorem agm:ay 216=some abE:=rfl
theorem agn:ay 217=some acu:=rfl
theorem ago:ay 218=some Ke:=rfl
theorem agp:ay 219=some acO:=rfl
theorem agq:ay 220=some acR:=rfl
theorem agr:ay 221=some acT:=rfl
theorem ags:ay 222=some acX:=rfl
theorem agt:ay 223=some acV:=rfl
theorem agu:ay 224=some ac5:=rfl
theorem agv:ay 225=some adb:=rfl
theorem agw:ay 226=some ac_:=rfl
theorem agx:ay 227=some ads:=rfl
theorem agy:ay 228=some adz:=rfl
theorem agz:ay 229=some adC:=rfl
theorem agA:ay 235=some abI:=rfl
theorem agB:ay 236=some abt:=rfl
theorem agC:ay 237=some abx:=rfl
theorem agD:ay 238=some Ti:=rfl
theorem agE:ay 239=some ab6:=rfl
theorem agF:ay 240=some Tl:=rfl
theorem agG:ay 241=some acd:=rfl
theorem agH:ay 242=some acE:=rfl
theorem agI:ay 243=some adh:=rfl
theorem agJ:ay 244=some adj:=rfl
theorem agK:ay 245=some Kf:=rfl
theorem agL:ay 250=some N3:=rfl
theorem agM:ay 251=some Tk:=rfl
end
noncomputable def libs:List (Nat×(List PV→Option PV)):= [(86,JU sj),(87,JV mU),(31,oiS dD),(32,CP eT),(99,osT iL),(208,NW l6),(12,Ik oG)]
noncomputable abbrev aX:dZ:=GH libs
abbrev ZX(d:Nat)(Q:PQ)(c:ak)(k:List It)(st:St):Prop:=ZR (bZ ay aX (d-1)) Q c k st
theorem cI{d f n:Nat}{fc:aK}{args:List PV}{bs:List bM}{r:PV×List bM}(hd:n≤d)(h: ∀Q:PX→St→Prop,(∀e bl,aU fc bs.length r e bl→Q e bl)→ZX d Q fc.body [] (tC args bs))(hc:ay f=some fc)(hz:fc.z=false:=by rfl)(hl:Nat.ble args.length fc.N=true:=by rfl)(hn:Nat.ble 1 n=true:=by rfl):bZ ay aX d f args bs=some r:=
 atk hc hz hl (Nat.le_trans (Nat.le_of_ble_eq_true hn) hd) h
theorem mH{γ:dZ}{Q:PQ}{k:List It}{st:St}{p:List PO}{i f:Nat}{R β:Type}{g:Option R}{K:R→Option β}{r:β}{a:ag}{l:List PV}{pr:R→ag}{rv:R→PV}(d:Nat)
  (hc: ∀z,g=some z→γ f l [ek a,aH a.af,aJ a.af,aN a.af]=some (rv z,[ek (pr z),aH (pr z).af,aJ (pr z).af,aN (pr z).af,.box []]))
  (hS:(g.bind fun z=>(bU (decide ((pr z).af.bn.length=a.af.bn.length))).bind fun _=>(bU (decide ((pr z).af.aT.Cells.length=a.af.aT.Cells.length))).bind fun _=>(bU (decide ((pr z).af.aG.Cells.length=a.af.aG.Cells.length))).bind fun _=>K z)=some r)
  (h: ∀z,g=some z→K z=some r→ZL γ Q k (p.drop (i+1)) (xY st (some d) (rM true [0,1,2,3] st.h d (rv z)) (kn true st.h [0,1,2,3] d [0,1,2,3] [ek (pr z),aH (pr z).af,aJ (pr z).af,aN (pr z).af,.box []]++(cE (rv z) [ek (pr z),aH (pr z).af,aJ (pr z).af,aN (pr z).af,.box []]).map fun x=>nw st.h (aZ d x.1) x.2)))
  (h1:evR st (p.drop i)=some (some d,f,[0,1,2,3],l,[ek a,aH a.af,aJ a.af,aN a.af]):=by kernel_rfl)
  (hr: ∀z,(decide ([0,1,2,3].length≤8)&&distinct ((cE (rv z) [ek (pr z),aH (pr z).af,aJ (pr z).af,aN (pr z).af,.box []]).map (·.1))&&(cE (rv z) [ek (pr z),aH (pr z).af,aJ (pr z).af,aN (pr z).af,.box []]).all (fun x=>decide (x.1<8)&& ![0,1,2,3].any (Nat.beq (aZ d x.1))))=true:=by intro _;kernel_rfl):ZL γ Q k (p.drop i) st:=by
 refine aq hS fun z hz hS=>aq hS fun _ c1 hS=>aq hS fun _ c2 hS=>aq hS fun _ c3 hS=>?_
 refine zXc d _ (hc z hz) ?_ (h z hz hS) h1 rfl (hr z)
 have d1:=of_decide_eq_true (gZ c1)
 have d2:=of_decide_eq_true (gZ c2)
 have d3:=of_decide_eq_true (gZ c3)
 show (decide ((aj.cells (pr z).af.aG.Cells).length=(aj.cells a.af.aG.Cells).length)&&(decide ((aj.cells (pr z).af.aT.Cells).length=(aj.cells a.af.aT.Cells).length)&&(decide ((bE.cells (pr z).af.bn).length=(bE.cells a.af.bn).length)&&true)))=true
 simp only [cS.dH,d1,d2,d3,decide_true,Bool.and_self]
theorem Xf{γ:dZ}{Q:PQ}{k:List It}{st:St}{p:List PO}{i f:Nat}{R β:Type}{g:Option R}{K:R→Option β}{r:β}{a:List ah}{l:List PV}{pr:R→List ah}{rv:R→PV}(d:Nat)(ids:List Nat)
  (hc: ∀z,g=some z→γ f l [.own 87 4 (aj.cells a)]=some (rv z,[.own 87 4 (aj.cells (pr z)),.box []]))
  (hS:(g.bind fun z=>(bU (decide ((pr z).length=a.length))).bind fun _=>K z)=some r)
  (h: ∀z,g=some z→bU (decide ((pr z).length=a.length))=some ()→K z=some r→ZL γ Q k (p.drop (i+1)) (xY st (some d) (rM true ids st.h d (rv z)) (kn true st.h ids d ids [.own 87 4 (aj.cells (pr z)),.box []]++(cE (rv z) [.own 87 4 (aj.cells (pr z)),.box []]).map fun x=>nw st.h (aZ d x.1) x.2)))
  (h1:evR st (p.drop i)=some (some d,f,ids,l,[.own 87 4 (aj.cells a)]):=by kernel_rfl) (yE:Nat.beq 2 (ids.length+1)=true:=by rfl)
  (hr: ∀z,(decide (ids.length≤8)&&distinct ((cE (rv z) [.own 87 4 (aj.cells (pr z)),.box []]).map (·.1))&&(cE (rv z) [.own 87 4 (aj.cells (pr z)),.box []]).all (fun x=>decide (x.1<8)&& !ids.any (Nat.beq (aZ d x.1))))=true:=by intro _;kernel_rfl):ZL γ Q k (p.drop i) st:=by
 refine aq hS fun z hz hS=>aq hS fun _ c1 hS=>?_
 refine zXc d _ (hc z hz) ?_ (h z hz c1 hS) h1 yE (hr z)
 have d1:=of_decide_eq_true (gZ c1)
 show (decide ((aj.cells (pr z)).length=(aj.cells a).length)&&true)=true
 simp only [cS.dH,d1,decide_true,Bool.and_self]
end Go.Proofs.YtimbfadnabfabaaGreatDoor.Pm
