/- The small machine's codes of some functions. Printed by dec.py. -/
import Derived.Test.YtimbfadnabfabaaGreatDoorKrz
import Derived.Test.YtimbfadnabfabaaGreatDoorLib1
import Derived.Test.YtimbfadnabfabaaGreatDoorPgo
import Derived.Test.YtimbfadnabfabaaGreatDoorProg
namespace Go.Proofs.YtimbfadnabfabaaGreatDoor.Pm
set_option maxRecDepth 1000000
set_option maxHeartbeats 20000000
set_option linter.unusedVariables false
abbrev tm(n:Nat):Operand:= .tmp n
abbrev ki(n:Int):Operand:= .const (.int .i64 n)
abbrev po(d:Nat)(o:kj):PO:=⟨some d,o,none⟩
abbrev dI(x:Int):PV:= .d (.int .i64 x)
abbrev dB(b:Bool):PV:= .d (.bool b)
abbrev pt(n:Nat):PV:= .r (.ptr n 0 0)
abbrev u0:Nat→PV:=fun _=> .un
abbrev h0:Nat→cq:=hB fun _=>0
section
variable {γ : ek} {Q : PX → St → Prop} {k : List It} {st : St} {p : List PO}
theorem zE{i:Nat}(h:ZK γ Q k .normal st)(h0:p.drop i= []:=by kernel_rfl):ZL γ Q k (p.drop i) st:=aih h0 h
theorem zT{c:Operand}{t e:aj}(h:ZR γ Q t k st)(hc:(bU st.s c).bool?=some true:=by kernel_rfl):ZR γ Q (.cond c t e) k st:=Sc hc h
theorem zF{c:Operand}{t e:aj}(h:ZR γ Q e k st)(hc:(bU st.s c).bool?=some false:=by kernel_rfl):ZR γ Q (.cond c t e) k st:=Sd hc h
theorem fN{m:Nat}{fc:aK}{r:PV×List bH}{s:St}(h:cP s m fc.res=some r)(he:dY fc.fin st=s:=by kernel_rfl)(hx:Lk fc.fin=false:=by kernel_rfl):aV fc m r .normal st:=aia hx ((congrArg (fun s=>cP s m fc.res) he).trans h)
theorem fR{m:Nat}{fc:aK}{r:PV×List bH}{s:St}(h:cP s m fc.res=some r)(he:dY fc.fin st=s:=by kernel_rfl)(hx:Lk fc.fin=false:=by kernel_rfl):aV fc m r .ret st:=jv hx ((congrArg (fun s=>cP s m fc.res) he).trans h)
end
abbrev eI:cT Int:=cE .i64
abbrev dL(x:List Int):PV:= .d (.sl x.length (eI.cells x))
abbrev dE{α:Type}(E:cT α)(x:List α):PV:= .d (.sl x.length (E.cells x))
abbrev LP:=List PO
abbrev pg(d g:Nat)(o:kj):PO:=⟨some d,o,some (g,true)⟩
abbrev lf(e a:Nat):kj:= .load false e (.tmp a)
abbrev lt(e a:Nat):kj:= .load true e (.tmp a)
abbrev fd(k a:Nat):kj:= .Rk k (.tmp a)
abbrev ck(a:Nat)(n:Int):kj:= .sQ .eql (.tmp a) (.const (.int .i64 n))
abbrev c1(f a:Nat):kj:= .call f [.tmp a]
abbrev PQ:=PX→St→Prop
abbrev FQ(A Q:PQ):Prop:= ∀e bl,A e bl→Q e bl
section
variable {γ : ek} {Q : PX → St → Prop} {k : List It} {st : St} {p : List PO} {α : Type} {a b r : α} {c : Bool}
theorem sR{c0:aj}(t:Nat)(hS:(bif c then a else b)=r)(ht:a=r→ZR γ Q c0 k (iO st t true))(hf:b=r→ZR γ Q c0 k (iO st t false))(h1:st.s t= .d (.bool c):=by kernel_rfl):ZR γ Q c0 k st:=aic t c h1 (fun h=>ht (CV h hS)) fun h=>hf (CW h hS)
theorem sL{l:List PO}(t:Nat)(hS:(bif c then a else b)=r)(ht:a=r→ZL γ Q k l (iO st t true))(hf:b=r→ZL γ Q k l (iO st t false))(h1:st.s t= .d (.bool c):=by kernel_rfl):ZL γ Q k l st:=aii t c h1 (fun h=>ht (CV h hS)) fun h=>hf (CW h hS)
variable {gi : List (Nat × Nat)} {acc : List (List (Nat × Bool))}
theorem fL{i:Nat}(h:ZK γ Q k .normal st)(h0:p.drop i= []:=by kernel_rfl)(ha:(gi.all fun x=>apart (acc.getD x.1 []) (acc.getD x.2 []))=true:=by kernel_rfl):ZD γ Q gi k acc (p.drop i) st:=aie h0 ha h
theorem jA{σ ρ:Type}{H:σ→St→Prop}{X:ρ→PX→St→Prop}{z:ρ}{r:σ⊕ρ}{e:PX}(hS:some (Sum.inr z)=some r)(hQ: ∀e bl,bG H X r e bl→Q e bl)(hne:e≠ .normal:=by intro h;cases h)(h:X z e st:=by show _=_∧_=_;exact ⟨rfl,rfl⟩):Q e st:=eA hS hQ (O2 hne h)
theorem mX{σ ρ:Type}{H:σ→St→Prop}{X:ρ→PX→St→Prop}{z:ρ}{r:σ⊕ρ}{e:PX}(hS:some (Sum.inr z)=some r)(hQ: ∀e bl,bG H X r e bl→Q e bl)(hne:e≠ .normal:=by intro h;cases h)(h:X z e st:=by show _=_∧_=_;exact ⟨rfl,by kernel_rfl⟩):Q e st:=eA hS hQ (O2 hne h)
variable {H : Nat → cq} {ρ : Nat → PV} {d : Nat}
theorem bX{ρ:Operand→PV}{f:Nat}{xs:List Operand}{l:List PV}{r:PV}(hc:γ f l []=some (r,[]))(hl:gU H (xs.map ρ)=some l:=by kernel_rfl)(hf:((bA (xs.map ρ)).isEmpty || fM r)=true:=by kernel_rfl)(hr:(distinct ((owns r).map (·.1))&&(owns r).all (fun x=>decide (x.1<8)))=true:=by kernel_rfl):az γ H d ρ (.call f xs)=some (Ah H d r,(owns r).map fun x=>nw H (aZ d x.1) x.2):=M5 hl hc hf hr
theorem Pd{ρ:Operand→PV}{f:Nat}{xs:List Operand}{l:List PV}(ids:List Nat){bt bJ:List bH}{r:PV}(hc:γ f l bt=some (r,bJ))(hi:fK H ((xs.map ρ).map pZ)=ids:=by kernel_rfl)(hb:(gH H ids).map (List.map (nQ ids H))=some bt:=by kernel_rfl)(hl:wN ids H ((xs.map ρ).map pZ)=l:=by kernel_rfl)
  (hr:(decide (bJ.length=ids.length)&&decide (ids.length≤8)&&distinct ((cA r bJ).map (·.1))&&(cA r bJ).all (fun x=>decide (x.1<8)&& !ids.any (Nat.beq (aZ d x.1))))=true:=by kernel_rfl):
  az γ H d ρ (.fO f xs)=some (qL false ids H d r,j7 false H ids d ids bJ++(cA r bJ).map fun x=>nw H (aZ d x.1) x.2):=IX hi hb hl hc hr
theorem vk{ρ:Operand→PV}{f:Nat}{xs:List Operand}{l:List PV}(ids:List Nat)(bs:List bH){bt bJ:List bH}{r:PV}(hc:γ f l bt=some (r,bJ))(hs:iy H ids bJ=true)(hi:fK H ((xs.map ρ).map pZ)=ids:=by kernel_rfl)(hb:gH H ids=some bs:=by kernel_rfl)(hl:wN ids H ((xs.map ρ).map pZ)=l:=by kernel_rfl)(ht:bs.map (nQ ids H)=bt:=by kernel_rfl)
  (w8:wC ids bJ=true:=by kernel_rfl) (hr:(decide (ids.length≤8)&&distinct ((cA r bJ).map (·.1))&&(cA r bJ).all (fun x=>decide (x.1<8)&& !ids.any (Nat.beq (aZ d x.1))))=true:=by kernel_rfl):
  az γ H d ρ (.fO f xs)=some (qL true ids H d r,j7 true H ids d ids bJ++(cA r bJ).map fun x=>nw H (aZ d x.1) x.2):=FN hi hb hl ht hc w8 hs hr
theorem lk{p q:PV}{ps qs:List PV}(h2:gU H ps=some qs)(h1:gA H p=some q:=by kernel_rfl):gU H (p::ps)=some (q::qs):=jr h1 h2
end
abbrev S8:=List UInt8
section
variable {γ : ek} {Q : PX → St → Prop} {k : List It} {st : St} {p : List PO} {b : aj}
theorem zS(h:ZL γ Q (.seq b::k) (p.drop 0) st):ZR γ Q (.seq (.ai p) b) k st:=aC (a_ h)
theorem zK{i:Nat}(h:ZR γ Q b k st)(h0:p.drop i= []:=by kernel_rfl):ZL γ Q (.seq b::k) (p.drop i) st:=zE (cj h) h0
end
abbrev cB:List Nat:= [100014,15,100033,100038,41,42,44,100045,47,49,52,72,74,77,100079,81,89,96,98,100,103,104,100107,100108,100110,112,113,100114,115,116,134,135,139,140,141,142,144,146,149,153,154,200155,155,159,160,178,179,180,181,182,183,184,187,188,189,190,191,196,206,207,209,212,213,215,217,219,221,222,223,224,227,228,229,230,232,239,241,243,244,246,247,249,250,251,252,254,273,100005,300213]
set_option linter.unusedSimpArgs false
structure jY where
 Mode:Int
 GQ:Int
 BN:Int
 pM:S8
 Over:Bool
structure aBR where
 Kind:Int
 GQ:Int
 BN:Int
 Data:S8
structure ax5 where
 iF:jY
 buf:S8
 data:S8
 l:List aBR
structure aR where
 State:Int
 Mark:Int
 Inter:S8
 Args:S8
 Text:S8
structure bw where
 Flags:Int
 eK:Int
 dV:Int
structure ah where
 eC:Int
 cz:bw
structure bQ where
 bR:Int
 bV:Int
 Cells:List ah
structure bq where
 Bits:Nat→Int
structure sX where
 Row:Int
 cQ:Int
 cz:bw
 Origin:Bool
 bF:Int×Int
 cN:Int
structure bY where
 Cells:List ah
structure aA where
 aG:bQ
 Row:Int
 cQ:Int
 eV:Bool
 jx:Int
 cZ:Int
 cz:bw
 dO:Int
 gN:bq
 bF:Int×Int
 cN:Int
 aS:sX
 aT:bQ
 gZ:S8
 bn:List bY
structure eT where
 Us:Nat→UInt8
 mK:Nat→UInt8
 Az:Nat→Int
 tH:Nat→Int
structure cu where
 Names:List S8
 At:Int
structure dD where
 Name:S8
 Value:S8
 Zx:Bool
 Set:Bool
structure g_ where
 iZ:Nat→UInt8
 rq:Nat→UInt8
structure I6 where
 Bits:Nat→Int
structure ru where
 pM:S8
 Quote:Bool
structure bg where
 iF:jY
 Cr:Bool
 Part:S8
 dX:aR
 af:aA
 Neg:eT
 bL:cu
 Vars:List dD
 Keys:g_
 Mask:I6
 gS:ru
 lF:Bool
structure dW where
 Name:Int
 eC:Int
 eG:Int
structure cK where
 kO:Int
 cQ:Int
 Row:Int
 eG:Int
 Up:Bool
structure fT where
 Kind:Int
 Data:S8
 Key:dW
 kE:cK
 Runes:List Int
 bR:Int
 bV:Int
 Us:Bool
 BN:Int
 On:Bool
structure bf where
 Client:bg
 sent:S8
structure aL where
 Kind:Int
 Code:Int
 Mark:Int
 Inter:S8
 Args:List Int
 Text:S8
structure ag where
 af:aA
 sent:S8
def cW:cT dD:=⟨4,fun x=> [.str x.Name,.str x.Value,.bool x.Zx,.bool x.Set],fun _=>rfl⟩
def kP:cT bw:=⟨3,fun x=> [.int .i64 x.Flags,.int .i64 x.eK,.int .i64 x.dV],fun _=>rfl⟩
def ak:cT ah:=⟨4,fun x=> [.int .i64 x.eC,.int .i64 x.cz.Flags,.int .i64 x.cz.eK,.int .i64 x.cz.dV],fun _=>rfl⟩
def ry:cT (Int×Int):=⟨2,fun x=> [.int .i64 x.1,.int .i64 x.2],fun _=>rfl⟩
def b_:cT bY:=⟨1,fun x=> [.sl x.Cells.length (ak.cells x.Cells)],fun _=>rfl⟩
def sY:cT bf:=⟨614,fun x=>(.int .i64 x.Client.iF.Mode::(.int .i64 x.Client.iF.GQ::(.int .i64 x.Client.iF.BN::(.str x.Client.iF.pM::(.bool x.Client.iF.Over::(.bool x.Client.Cr::(.str x.Client.Part::(.int .i64 x.Client.dX.State::(.int .i64 x.Client.dX.Mark::(.str x.Client.dX.Inter::(.str x.Client.dX.Args::(.str x.Client.dX.Text::(.int .i64 x.Client.af.aG.bR::(.int .i64 x.Client.af.aG.bV::(.sl x.Client.af.aG.Cells.length (ak.cells x.Client.af.aG.Cells)::(.int .i64 x.Client.af.Row::(.int .i64 x.Client.af.cQ::(.bool x.Client.af.eV::(.int .i64 x.Client.af.jx::(.int .i64 x.Client.af.cZ::(.int .i64 x.Client.af.cz.Flags::(.int .i64 x.Client.af.cz.eK::(.int .i64 x.Client.af.cz.dV::(.int .i64 x.Client.af.dO::((cE .u64).jQ 4 x.Client.af.gN.Bits++(.int .i64 x.Client.af.bF.1::(.int .i64 x.Client.af.bF.2::(.int .i64 x.Client.af.cN::(.int .i64 x.Client.af.aS.Row::(.int .i64 x.Client.af.aS.cQ::(.int .i64 x.Client.af.aS.cz.Flags::(.int .i64 x.Client.af.aS.cz.eK::(.int .i64 x.Client.af.aS.cz.dV::(.bool x.Client.af.aS.Origin::(.int .i64 x.Client.af.aS.bF.1::(.int .i64 x.Client.af.aS.bF.2::(.int .i64 x.Client.af.aS.cN::(.int .i64 x.Client.af.aT.bR::(.int .i64 x.Client.af.aT.bV::(.sl x.Client.af.aT.Cells.length (ak.cells x.Client.af.aT.Cells)::(.str x.Client.af.gZ::(.sl x.Client.af.bn.length (b_.cells x.Client.af.bn)::(cH.jQ 256 x.Client.Neg.Us++(cH.jQ 256 x.Client.Neg.mK++((cE .u64).jQ 4 x.Client.Neg.Az++((cE .u64).jQ 4 x.Client.Neg.tH++(.sl x.Client.bL.Names.length (dM.cells x.Client.bL.Names)::(.int .i64 x.Client.bL.At::(.sl x.Client.Vars.length (cW.cells x.Client.Vars)::(cH.jQ 19 x.Client.Keys.iZ++(cH.jQ 19 x.Client.Keys.rq++((cE .u64).jQ 4 x.Client.Mask.Bits++(.str x.Client.gS.pM::(.bool x.Client.gS.Quote::(.bool x.Client.lF::(.str x.sent:: [])))))))))))))))))))))))))))))))))))))))))))))))))))))))),fun x=>by simp only [List.length_append,List.length_cons,List.length_nil,cT.M3];rfl⟩
def bB:cT aL:=⟨6,fun x=> [.int .i64 x.Kind,.int .i64 x.Code,.int .i64 x.Mark,.str x.Inter,.sl x.Args.length (eI.cells x.Args),.str x.Text],fun _=>rfl⟩
def AA:cT ag:=⟨34,fun x=>(.int .i64 x.af.aG.bR::(.int .i64 x.af.aG.bV::(.un::(.int .i64 x.af.Row::(.int .i64 x.af.cQ::(.bool x.af.eV::(.int .i64 x.af.jx::(.int .i64 x.af.cZ::(.int .i64 x.af.cz.Flags::(.int .i64 x.af.cz.eK::(.int .i64 x.af.cz.dV::(.int .i64 x.af.dO::((cE .u64).jQ 4 x.af.gN.Bits++(.int .i64 x.af.bF.1::(.int .i64 x.af.bF.2::(.int .i64 x.af.cN::(.int .i64 x.af.aS.Row::(.int .i64 x.af.aS.cQ::(.int .i64 x.af.aS.cz.Flags::(.int .i64 x.af.aS.cz.eK::(.int .i64 x.af.aS.cz.dV::(.bool x.af.aS.Origin::(.int .i64 x.af.aS.bF.1::(.int .i64 x.af.aS.bF.2::(.int .i64 x.af.aS.cN::(.int .i64 x.af.aT.bR::(.int .i64 x.af.aT.bV::(.un::(.str x.af.gZ::(.un::(.str x.sent:: []))))))))))))))))))))))))))))))),fun x=>by simp only [List.length_append,List.length_cons,List.length_nil,cT.M3];rfl⟩
def Sy:cT jY:=⟨5,fun x=> [.int .i64 x.Mode,.int .i64 x.GQ,.int .i64 x.BN,.str x.pM,.bool x.Over],fun _=>rfl⟩
def I7:cT aR:=⟨5,fun x=> [.int .i64 x.State,.int .i64 x.Mark,.str x.Inter,.str x.Args,.str x.Text],fun _=>rfl⟩
def I8:cT bQ:=⟨3,fun x=> [.int .i64 x.bR,.int .i64 x.bV,.sl x.Cells.length (ak.cells x.Cells)],fun _=>rfl⟩
def Nb:cT sX:=⟨9,fun x=> [.int .i64 x.Row,.int .i64 x.cQ,.int .i64 x.cz.Flags,.int .i64 x.cz.eK,.int .i64 x.cz.dV,.bool x.Origin,.int .i64 x.bF.1,.int .i64 x.bF.2,.int .i64 x.cN],fun _=>rfl⟩
def Nc:cT cu:=⟨2,fun x=> [.sl x.Names.length (dM.cells x.Names),.int .i64 x.At],fun _=>rfl⟩
def I9:cT ru:=⟨2,fun x=> [.str x.pM,.bool x.Quote],fun _=>rfl⟩
def aqv:cT dW:=⟨3,fun x=> [.int .i64 x.Name,.int .i64 x.eC,.int .i64 x.eG],fun _=>rfl⟩
def ad4:cT cK:=⟨5,fun x=> [.int .i64 x.kO,.int .i64 x.cQ,.int .i64 x.Row,.int .i64 x.eG,.bool x.Up],fun _=>rfl⟩
def kF(x:aA)(c3 c2 c1:PV):List PV:=((dI x.aG.bR)::((dI x.aG.bV)::(c3::((dI x.Row)::((dI x.cQ)::((dB x.eV)::((dI x.jx)::((dI x.cZ)::((dI x.cz.Flags)::((dI x.cz.eK)::((dI x.cz.dV)::((dI x.dO)::(((cE .u64).row 4 x.gN.Bits)++((dI x.bF.1)::((dI x.bF.2)::((dI x.cN)::((dI x.aS.Row)::((dI x.aS.cQ)::((dI x.aS.cz.Flags)::((dI x.aS.cz.eK)::((dI x.aS.cz.dV)::((dB x.aS.Origin)::((dI x.aS.bF.1)::((dI x.aS.bF.2)::((dI x.aS.cN)::((dI x.aT.bR)::((dI x.aT.bV)::(c2::((.d (.str x.gZ))::(c1:: []))))))))))))))))))))))))))))))
def oW(x:bg)(c5 c4 c3 c2 c1:PV):List PV:=((dI x.iF.Mode)::((dI x.iF.GQ)::((dI x.iF.BN)::((.d (.str x.iF.pM))::((dB x.iF.Over)::((dB x.Cr)::((.d (.str x.Part))::((dI x.dX.State)::((dI x.dX.Mark)::((.d (.str x.dX.Inter))::((.d (.str x.dX.Args))::((.d (.str x.dX.Text))::((dI x.af.aG.bR)::((dI x.af.aG.bV)::(c5::((dI x.af.Row)::((dI x.af.cQ)::((dB x.af.eV)::((dI x.af.jx)::((dI x.af.cZ)::((dI x.af.cz.Flags)::((dI x.af.cz.eK)::((dI x.af.cz.dV)::((dI x.af.dO)::(((cE .u64).row 4 x.af.gN.Bits)++((dI x.af.bF.1)::((dI x.af.bF.2)::((dI x.af.cN)::((dI x.af.aS.Row)::((dI x.af.aS.cQ)::((dI x.af.aS.cz.Flags)::((dI x.af.aS.cz.eK)::((dI x.af.aS.cz.dV)::((dB x.af.aS.Origin)::((dI x.af.aS.bF.1)::((dI x.af.aS.bF.2)::((dI x.af.aS.cN)::((dI x.af.aT.bR)::((dI x.af.aT.bV)::(c4::((.d (.str x.af.gZ))::(c3::((cH.row 256 x.Neg.Us)++((cH.row 256 x.Neg.mK)++(((cE .u64).row 4 x.Neg.Az)++(((cE .u64).row 4 x.Neg.tH)++(c2::((dI x.bL.At)::(c1::((cH.row 19 x.Keys.iZ)++((cH.row 19 x.Keys.rq)++(((cE .u64).row 4 x.Mask.Bits)++((.d (.str x.gS.pM))::((dB x.gS.Quote)::((dB x.lF):: [])))))))))))))))))))))))))))))))))))))))))))))))))))))))
def FR(x:bf)(c5 c4 c3 c2 c1:PV):List PV:=((dI x.Client.iF.Mode)::((dI x.Client.iF.GQ)::((dI x.Client.iF.BN)::((.d (.str x.Client.iF.pM))::((dB x.Client.iF.Over)::((dB x.Client.Cr)::((.d (.str x.Client.Part))::((dI x.Client.dX.State)::((dI x.Client.dX.Mark)::((.d (.str x.Client.dX.Inter))::((.d (.str x.Client.dX.Args))::((.d (.str x.Client.dX.Text))::((dI x.Client.af.aG.bR)::((dI x.Client.af.aG.bV)::(c5::((dI x.Client.af.Row)::((dI x.Client.af.cQ)::((dB x.Client.af.eV)::((dI x.Client.af.jx)::((dI x.Client.af.cZ)::((dI x.Client.af.cz.Flags)::((dI x.Client.af.cz.eK)::((dI x.Client.af.cz.dV)::((dI x.Client.af.dO)::(((cE .u64).row 4 x.Client.af.gN.Bits)++((dI x.Client.af.bF.1)::((dI x.Client.af.bF.2)::((dI x.Client.af.cN)::((dI x.Client.af.aS.Row)::((dI x.Client.af.aS.cQ)::((dI x.Client.af.aS.cz.Flags)::((dI x.Client.af.aS.cz.eK)::((dI x.Client.af.aS.cz.dV)::((dB x.Client.af.aS.Origin)::((dI x.Client.af.aS.bF.1)::((dI x.Client.af.aS.bF.2)::((dI x.Client.af.aS.cN)::((dI x.Client.af.aT.bR)::((dI x.Client.af.aT.bV)::(c4::((.d (.str x.Client.af.gZ))::(c3::((cH.row 256 x.Client.Neg.Us)++((cH.row 256 x.Client.Neg.mK)++(((cE .u64).row 4 x.Client.Neg.Az)++(((cE .u64).row 4 x.Client.Neg.tH)++(c2::((dI x.Client.bL.At)::(c1::((cH.row 19 x.Client.Keys.iZ)++((cH.row 19 x.Client.Keys.rq)++(((cE .u64).row 4 x.Client.Mask.Bits)++((.d (.str x.Client.gS.pM))::((dB x.Client.gS.Quote)::((dB x.Client.lF)::((.d (.str x.sent)):: []))))))))))))))))))))))))))))))))))))))))))))))))))))))))
def lG(x:ag)(c3 c2 c1:PV):List PV:=((dI x.af.aG.bR)::((dI x.af.aG.bV)::(c3::((dI x.af.Row)::((dI x.af.cQ)::((dB x.af.eV)::((dI x.af.jx)::((dI x.af.cZ)::((dI x.af.cz.Flags)::((dI x.af.cz.eK)::((dI x.af.cz.dV)::((dI x.af.dO)::(((cE .u64).row 4 x.af.gN.Bits)++((dI x.af.bF.1)::((dI x.af.bF.2)::((dI x.af.cN)::((dI x.af.aS.Row)::((dI x.af.aS.cQ)::((dI x.af.aS.cz.Flags)::((dI x.af.aS.cz.eK)::((dI x.af.aS.cz.dV)::((dB x.af.aS.Origin)::((dI x.af.aS.bF.1)::((dI x.af.aS.bF.2)::((dI x.af.aS.cN)::((dI x.af.aT.bR)::((dI x.af.aT.bV)::(c2::((.d (.str x.af.gZ))::(c1::((.d (.str x.sent)):: [])))))))))))))))))))))))))))))))
def I_(x:aL)(c1:PV):List PV:=((dI x.Kind)::((dI x.Code)::((dI x.Mark)::((.d (.str x.Inter))::(c1::((.d (.str x.Text)):: []))))))
def Wb(x:fT)(c1:PV):List PV:=((dI x.Kind)::((.d (.str x.Data))::((dI x.Key.Name)::((dI x.Key.eC)::((dI x.Key.eG)::((dI x.kE.kO)::((dI x.kE.cQ)::((dI x.kE.Row)::((dI x.kE.eG)::((dB x.kE.Up)::(c1::((dI x.bR)::((dI x.bV)::((dB x.Us)::((dI x.BN)::((dB x.On):: []))))))))))))))))
abbrev Sz(x:aA)(i0 i1 i2:Nat):bH:= .box (kF x (.r (.aJ i0 0 0 x.aG.Cells.length)) (.r (.aJ i1 0 0 x.aT.Cells.length)) (.r (.aJ i2 0 0 x.bn.length)))
abbrev aH(x:aA):bH:= .own 87 4 (ak.cells x.aG.Cells)
abbrev aI(x:aA):bH:= .own 87 4 (ak.cells x.aT.Cells)
abbrev aM(x:aA):bH:= .own 111 1 (b_.cells x.bn)
abbrev iA(x:aA):PV:= .d (.sl x.aG.Cells.length (ak.cells x.aG.Cells))
abbrev C3(x:aA):PV:= .r (.own 0 87 4 x.aG.Cells.length (ak.cells x.aG.Cells))
abbrev jH(x:aA):PV:= .d (.sl x.aT.Cells.length (ak.cells x.aT.Cells))
abbrev C4(x:aA):PV:= .r (.own 1 87 4 x.aT.Cells.length (ak.cells x.aT.Cells))
abbrev fU(x:aA):PV:= .d (.sl x.bn.length (b_.cells x.bn))
abbrev Pe(x:aA):PV:= .r (.own 2 111 1 x.bn.length (b_.cells x.bn))
abbrev bM(x:aA):List PV:=kF x (iA x) (jH x) (fU x)
abbrev eP(x:aA):List PV:=kF x (C3 x) (C4 x) (Pe x)
abbrev bS(x:aA)(i0 ji0 i1 ji1 i2 ji2:Nat):List PV:=kF x (.r (.aJ i0 ji0 0 x.aG.Cells.length)) (.r (.aJ i1 ji1 0 x.aT.Cells.length)) (.r (.aJ i2 ji2 0 x.bn.length))
abbrev xx(h:Nat→cq)(x:aA)(i:Nat)(i0 i1 i2:Nat):Nat→cq:=up (up (up (up h i2 ⟨0,some (aM x)⟩) i1 ⟨0,some (aI x)⟩) i0 ⟨0,some (aH x)⟩) i ⟨0,some (Sz x i0 i1 i2)⟩
abbrev k5(x:bg):PV:=(.agg ((dI x.iF.Mode)::((dI x.iF.GQ)::((dI x.iF.BN)::((.d (.str x.iF.pM))::((dB x.iF.Over)::((dB x.Cr)::((.d (.str x.Part))::((dI x.dX.State)::((dI x.dX.Mark)::((.d (.str x.dX.Inter))::((.d (.str x.dX.Args))::((.d (.str x.dX.Text))::((dI x.af.aG.bR)::((dI x.af.aG.bV)::((iA x.af)::((dI x.af.Row)::((dI x.af.cQ)::((dB x.af.eV)::((dI x.af.jx)::((dI x.af.cZ)::((dI x.af.cz.Flags)::((dI x.af.cz.eK)::((dI x.af.cz.dV)::((dI x.af.dO)::(((cE .u64).row 4 x.af.gN.Bits)++((dI x.af.bF.1)::((dI x.af.bF.2)::((dI x.af.cN)::((dI x.af.aS.Row)::((dI x.af.aS.cQ)::((dI x.af.aS.cz.Flags)::((dI x.af.aS.cz.eK)::((dI x.af.aS.cz.dV)::((dB x.af.aS.Origin)::((dI x.af.aS.bF.1)::((dI x.af.aS.bF.2)::((dI x.af.aS.cN)::((dI x.af.aT.bR)::((dI x.af.aT.bV)::((jH x.af)::((.d (.str x.af.gZ))::((fU x.af)::((cH.row 256 x.Neg.Us)++((cH.row 256 x.Neg.mK)++(((cE .u64).row 4 x.Neg.Az)++(((cE .u64).row 4 x.Neg.tH)++((dE dM x.bL.Names)::((dI x.bL.At)::((dE cW x.Vars)::((cH.row 19 x.Keys.iZ)++((cH.row 19 x.Keys.rq)++(((cE .u64).row 4 x.Mask.Bits)++((.d (.str x.gS.pM))::((dB x.gS.Quote)::((dB x.lF):: []))))))))))))))))))))))))))))))))))))))))))))))))))))))))
abbrev ue(x:ag):List PV:=((dI x.af.aG.bR)::((dI x.af.aG.bV)::((.r (.aJ 1 0 0 x.af.aG.Cells.length))::((dI x.af.Row)::((dI x.af.cQ)::((dB x.af.eV)::((dI x.af.jx)::((dI x.af.cZ)::((dI x.af.cz.Flags)::((dI x.af.cz.eK)::((dI x.af.cz.dV)::((dI x.af.dO)::(((cE .u64).row 4 x.af.gN.Bits)++((dI x.af.bF.1)::((dI x.af.bF.2)::((dI x.af.cN)::((dI x.af.aS.Row)::((dI x.af.aS.cQ)::((dI x.af.aS.cz.Flags)::((dI x.af.aS.cz.eK)::((dI x.af.aS.cz.dV)::((dB x.af.aS.Origin)::((dI x.af.aS.bF.1)::((dI x.af.aS.bF.2)::((dI x.af.aS.cN)::((dI x.af.aT.bR)::((dI x.af.aT.bV)::((.r (.aJ 2 0 0 x.af.aT.Cells.length))::((.d (.str x.af.gZ))::((.r (.aJ 3 0 0 x.af.bn.length))::((.d (.str x.sent)):: [])))))))))))))))))))))))))))))))
abbrev eo(x:ag):bH:=(.box (lG x (.r (.aJ 1 0 0 x.af.aG.Cells.length)) (.r (.aJ 2 0 0 x.af.aT.Cells.length)) (.r (.aJ 3 0 0 x.af.bn.length))))
abbrev q4_(x:bg):PV:=(.agg ((dI x.iF.Mode)::((dI x.iF.GQ)::((dI x.iF.BN)::((.d (.str x.iF.pM))::((dB x.iF.Over)::((dB x.Cr)::((.d (.str x.Part))::((dI x.dX.State)::((dI x.dX.Mark)::((.d (.str x.dX.Inter))::((.d (.str x.dX.Args))::((.d (.str x.dX.Text))::((dI x.af.aG.bR)::((dI x.af.aG.bV)::((iA x.af)::((dI x.af.Row)::((dI x.af.cQ)::((dB x.af.eV)::((dI x.af.jx)::((dI x.af.cZ)::((dI x.af.cz.Flags)::((dI x.af.cz.eK)::((dI x.af.cz.dV)::((dI x.af.dO)::(((cE .u64).row 4 x.af.gN.Bits)++((dI x.af.bF.1)::((dI x.af.bF.2)::((dI x.af.cN)::((dI x.af.aS.Row)::((dI x.af.aS.cQ)::((dI x.af.aS.cz.Flags)::((dI x.af.aS.cz.eK)::((dI x.af.aS.cz.dV)::((dB x.af.aS.Origin)::((dI x.af.aS.bF.1)::((dI x.af.aS.bF.2)::((dI x.af.aS.cN)::((dI x.af.aT.bR)::((dI x.af.aT.bV)::((jH x.af)::((.d (.str x.af.gZ))::((fU x.af)::((cH.row 256 x.Neg.Us)++((cH.row 256 x.Neg.mK)++(((cE .u64).row 4 x.Neg.Az)++(((cE .u64).row 4 x.Neg.tH)++((dE dM x.bL.Names)::((dI x.bL.At)::((dE cW x.Vars)::((cH.row 19 x.Keys.iZ)++((cH.row 19 x.Keys.rq)++(((cE .u64).row 4 x.Mask.Bits)++((.d (.str x.gS.pM))::((dB x.gS.Quote)::((dB false):: []))))))))))))))))))))))))))))))))))))))))))))))))))))))))
abbrev kG(x:ag):Nat→cq:=(up (up (up (up h0 3 ⟨1,some (aM x.af)⟩) 2 ⟨1,some (aI x.af)⟩) 1 ⟨1,some (aH x.af)⟩) 0 ⟨0,some (.box (lG x (.r (.aJ 1 1 0 x.af.aG.Cells.length)) (.r (.aJ 2 1 0 x.af.aT.Cells.length)) (.r (.aJ 3 1 0 x.af.bn.length))))⟩)
abbrev mL:cq:=⟨0,some (.box (kF (aA.mk (bQ.mk 0 0 ([])) 0 0 false 0 0 (bw.mk 0 0 0) 0 (bq.mk (fun _=>0)) (0,0) 0 (sX.mk 0 0 (bw.mk 0 0 0) false (0,0) 0) (bQ.mk 0 0 ([])) ([]) ([])) (.d (.sl ([]:List ah).length (ak.cells ([])))) (.d (.sl ([]:List ah).length (ak.cells ([])))) (.d (.sl ([]:List bY).length (b_.cells ([]))))))⟩
abbrev vn(x:bf):bH:=(.box (FR x (iA x.Client.af) (jH x.Client.af) (fU x.Client.af) (dE dM x.Client.bL.Names) (dE cW x.Client.Vars)))
abbrev uf(x:ag):List PV:=((dI x.af.aG.bR)::((dI x.af.aG.bV)::((.r (.aJ 1 1 0 x.af.aG.Cells.length))::((dI x.af.Row)::((dI x.af.cQ)::((dB x.af.eV)::((dI x.af.jx)::((dI x.af.cZ)::((dI x.af.cz.Flags)::((dI x.af.cz.eK)::((dI x.af.cz.dV)::((dI x.af.dO)::(((cE .u64).row 4 x.af.gN.Bits)++((dI x.af.bF.1)::((dI x.af.bF.2)::((dI x.af.cN)::((dI x.af.aS.Row)::((dI x.af.aS.cQ)::((dI x.af.aS.cz.Flags)::((dI x.af.aS.cz.eK)::((dI x.af.aS.cz.dV)::((dB x.af.aS.Origin)::((dI x.af.aS.bF.1)::((dI x.af.aS.bF.2)::((dI x.af.aS.cN)::((dI x.af.aT.bR)::((dI x.af.aT.bV)::((.r (.aJ 2 1 0 x.af.aT.Cells.length))::((.d (.str x.af.gZ))::((.r (.aJ 3 1 0 x.af.bn.length))::((.d (.str x.sent)):: [])))))))))))))))))))))))))))))))
abbrev BO(x:aR):List PV:=((dI x.State)::((dI x.Mark)::((.d (.str x.Inter))::((.d (.str x.Args))::((.d (.str x.Text)):: [])))))
abbrev aiD(x:aA):PV:=(.agg ((dI x.aG.bR)::((dI x.aG.bV)::((C3 x)::((dI x.Row)::((dI x.cQ)::((dB x.eV)::((dI x.jx)::((dI x.cZ)::((dI x.cz.Flags)::((dI x.cz.eK)::((dI x.cz.dV)::((dI x.dO)::(((cE .u64).row 4 x.gN.Bits)++((dI x.bF.1)::((dI x.bF.2)::((dI x.cN)::((dI x.aS.Row)::((dI x.aS.cQ)::((dI x.aS.cz.Flags)::((dI x.aS.cz.eK)::((dI x.aS.cz.dV)::((dB x.aS.Origin)::((dI x.aS.bF.1)::((dI x.aS.bF.2)::((dI x.aS.cN)::((dI x.aT.bR)::((dI x.aT.bV)::((C4 x)::((.d (.str x.gZ))::(.nil:: [])))))))))))))))))))))))))))))))
abbrev jS(x:ag):Nat→cq:=(up (up (up (up (up h0 226 ⟨0,some (aM x.af)⟩) 225 ⟨0,some (aI x.af)⟩) 224 ⟨0,some (aH x.af)⟩) 240 ⟨0,some (.box (lG x (.r (.aJ 224 0 0 x.af.aG.Cells.length)) (.r (.aJ 225 0 0 x.af.aT.Cells.length)) (.r (.aJ 226 0 0 x.af.bn.length))))⟩) 40 mL)
abbrev Zy(x:aA):Nat→cq:=(up (up (up h0 3 ⟨0,some (aM x)⟩) 2 ⟨0,some (aI x)⟩) 1 ⟨0,some (aH x)⟩)
abbrev Zz(x:jY):List PV:=((dI x.Mode)::((dI x.GQ)::((dI x.BN)::((.d (.str x.pM))::((dB x.Over):: [])))))
abbrev xy(x:cK):List PV:=((dI x.kO)::((dI x.cQ)::((dI x.Row)::((dI x.eG)::((dB x.Up):: [])))))
abbrev Ja(x:ah):List PV:=((dI x.eC)::((dI x.cz.Flags)::((dI x.cz.eK)::((dI x.cz.dV):: []))))
abbrev xz(x:bw):cq:=⟨0,some (.box ((dI x.Flags)::((dI x.eK)::((dI x.dV):: []))))⟩
abbrev lH(x:ag):bH:=(.box (lG x (.r (.aJ 1 1 0 x.af.aG.Cells.length)) (.r (.aJ 2 1 0 x.af.aT.Cells.length)) (.r (.aJ 3 1 0 x.af.bn.length))))
abbrev kV:cq:=⟨0,some (.box (oW (bg.mk (jY.mk 0 0 0 ([]) false) false ([]) (aR.mk 0 0 ([]) ([]) ([])) (aA.mk (bQ.mk 0 0 ([])) 0 0 false 0 0 (bw.mk 0 0 0) 0 (bq.mk (fun _=>0)) (0,0) 0 (sX.mk 0 0 (bw.mk 0 0 0) false (0,0) 0) (bQ.mk 0 0 ([])) ([]) ([])) (eT.mk (fun _=>0) (fun _=>0) (fun _=>0) (fun _=>0)) (cu.mk ([]) 0) ([]) (g_.mk (fun _=>0) (fun _=>0)) (I6.mk (fun _=>0)) (ru.mk ([]) false) false) (.d (.sl ([]:List ah).length (ak.cells ([])))) (.d (.sl ([]:List ah).length (ak.cells ([])))) (.d (.sl ([]:List bY).length (b_.cells ([])))) (.d (.sl ([]:List S8).length (dM.cells ([])))) (.d (.sl ([]:List dD).length (cW.cells ([]))))))⟩
abbrev C5(x:bQ):Nat→cq:=(up h0 16 ⟨0,some (.box ((dI x.bR)::((dI x.bV)::((dE ak x.Cells):: []))))⟩)
abbrev xA(x:dW):cq:=⟨0,some (.box ((dI x.Name)::((dI x.eC)::((dI x.eG):: []))))⟩
abbrev Nd(x:aL):PV:=(.agg ((dI x.Kind)::((dI x.Code)::((dI x.Mark)::((.d (.str x.Inter))::((dL x.Args)::((.d (.str x.Text)):: [])))))))
abbrev C6:List PV:=((dI 0)::((dI 0)::((.d (.str ([])))::((.d (.str ([])))::((.d (.str ([]))):: [])))))
abbrev aBS(x:ag):ag:=(ag.mk ({x.af with Row:=(if (IntKind.i64.wrap (x.af.aG.bV-1))<x.af.aS.Row then (IntKind.i64.wrap (x.af.aG.bV-1)) else x.af.aS.Row),cz:=x.af.aS.cz,bF:=x.af.aS.bF,cN:=x.af.aS.cN}) x.sent)
abbrev AB(x:bw):PV:=(.agg ((dI x.Flags)::((dI x.eK)::((dI x.dV):: []))))
abbrev AD(x:eT):PV:=(.agg ((cH.row 256 x.Us)++((cH.row 256 x.mK)++ [])))
abbrev j_(x:aA):cq:=⟨0,some (.box (kF x (.r (.aJ 72 0 0 x.aG.Cells.length)) (.r (.aJ 96 0 0 x.aT.Cells.length)) (fU x)))⟩
abbrev SA(x:aA):Nat→PV:=(up (up (up (up u0 1000003 .un) 1000002 .un) 1000001 .un) 5 (dI (IntKind.i64.wrap (x.aG.bR-1))))
abbrev av8(x:fT):PV:=(.agg ((dI x.Kind)::((.d (.str x.Data))::((dI x.Key.Name)::((dI x.Key.eC)::((dI x.Key.eG)::((dI x.kE.kO)::((dI x.kE.cQ)::((dI x.kE.Row)::((dI x.kE.eG)::((dB x.kE.Up)::((dL x.Runes)::((dI x.bR)::((dI x.bV)::((dB x.Us)::((dI x.BN)::((dB x.On):: [])))))))))))))))))
abbrev SB(x:dD):List PV:=((.d (.str x.Name))::((.d (.str x.Value))::((dB x.Zx)::((dB x.Set):: []))))
abbrev Nf(x:cu):Nat→cq:=(up h0 16 ⟨0,some (.box ((dE dM x.Names)::((dI x.At):: [])))⟩)
abbrev SC(x:g_):Nat→cq:=(up h0 16 ⟨0,some (.box ((cH.row 19 x.iZ)++((cH.row 19 x.rq)++ [])))⟩)
abbrev av9(x:bg):cq:=⟨0,some (.box (oW x (iA x.af) (jH x.af) (fU x.af) (dE dM x.bL.Names) (dE cW x.Vars)))⟩
abbrev av_(x:cK):PV:=(.agg ((dI 3)::((.d (.str ([])))::((dI 0)::((dI 0)::((dI 0)::((dI x.kO)::((dI x.cQ)::((dI x.Row)::((dI x.eG)::((dB x.Up)::(.nil::((dI 0)::((dI 0)::((dB false)::((dI 0)::((dB false):: [])))))))))))))))))
abbrev kW(x:ag):bH:=(.box (lG x (.r (.aJ 1 0 0 x.af.aG.Cells.length)) (.r (.aJ 2 0 0 x.af.aT.Cells.length)) .nil))
abbrev awa(x:dW):PV:=(.agg ((dI 2)::((.d (.str ([])))::((dI x.Name)::((dI x.eC)::((dI x.eG)::((dI 0)::((dI 0)::((dI 0)::((dI 0)::((dB false)::(.nil::((dI 0)::((dI 0)::((dB false)::((dI 0)::((dB false):: [])))))))))))))))))
abbrev ZA(x:bQ):PV:=(.agg ((dI x.bR)::((dI x.bV)::((dE ak x.Cells):: []))))
noncomputable section
noncomputable def Wc:aj→List (List PO)
 | .ai p=> [p]
 | .cU p _=> [p]
 | .seq a b=>Wc a++Wc b
 | .cond _ a b=>Wc a++Wc b
 | .block _ a=>Wc a
 | .loop a=>Wc a
 | _=> []
noncomputable def rG(f i:Nat):LP:=match aW Go.Proofs.Tryz.prog cB f with
 | some c=>(Wc c.body).getD i []
 | none=> []
def aiE:aj:=(.keep [1,3,4] [(16,.id 16)] [] (.seq (.seq (.ai (rG 19 6)) (.cond (.tmp 41) (.ai (rG 19 7)) (.ai (rG 19 8)))) (.seq (.seq (.ai (rG 19 9)) (.cond (.tmp 86) (.seq (.ai (rG 19 10)) .ret) .skip)) (.seq (.ai (rG 19 11)) .ret))))
def aiF:aj:=(.keep [1,3,4] [(16,.id 16)] [] (.seq (.seq (.ai (rG 19 3)) (.cond (.tmp 23) (.ai (rG 19 4)) (.ai (rG 19 5)))) aiE))
def aiG:aj:=(.keep [1,3] [(16,.id 16)] [] (.seq (.ai (rG 19 2)) aiF))
def ax6:aj:=(.seq (.ai (rG 19 0)) (.seq (.ai (rG 19 1)) aiG))
def c19:aK:=⟨87,ax6,[(.tmp 2)],some ([2],[],[]),false⟩
theorem aqw:aW Go.Proofs.Tryz.prog cB 19=some (aO c19):=by kernel_rfl
def aqx:aj:=(.seq (.ai (rG 104 0)) (.cond (.tmp 7) (.seq (.cU (rG 104 1) [(4,11)]) (.ai (rG 104 2))) .skip))
def awb:aK:=⟨26,aqx,[],some ([1000001,1000002,1000003],[(0,.id 0),(1,.id 1),(2,.id 2),(3,.id 3)],[.cell 0 6 2 5 1]),false⟩
theorem aiH:aW Go.Proofs.Tryz.prog cB 104=some (aO awb):=by kernel_rfl
def aqy:aj:=(.seq (.ai (rG 140 0)) (.seq (.ai (rG 140 1)) (.cU (rG 140 2) [(4,6)])))
def awc:aK:=⟨16,aqy,[],some ([1000001,1000002,1000003],[(0,.id 0),(1,.id 1),(2,.id 2),(3,.id 3)],[]),false⟩
theorem aiI:aW Go.Proofs.Tryz.prog cB 140=some (aO awc):=by kernel_rfl
def aqz:aj:=(.cond (.tmp 13) (.ai (rG 139 2)) (.seq (.ai (rG 139 3)) (.cond (.tmp 26) (.ai (rG 139 4)) (.seq (.ai (rG 139 5)) (.cond (.tmp 39) (.ai (rG 139 6)) (.seq (.ai (rG 139 7)) (.cond (.tmp 46) (.ai (rG 139 8)) (.ai (rG 139 9)))))))))
def aqA:aj:=(.seq (.ai (rG 139 0)) (.block 0 (.seq (.ai (rG 139 1)) aqz)))
def awd:aK:=⟨54,aqA,[],some ([1000001,1000002,1000003],[(0,.id 0),(1,.id 1),(2,.id 2),(3,.id 3)],[]),false⟩
theorem aiJ:aW Go.Proofs.Tryz.prog cB 139=some (aO awd):=by kernel_rfl
def aqB:aj:=(.keep [0,1,1000001,1000002,1000003] [(0,.id 0),(1,.id 1),(2,.id 2),(3,.id 3)] [.cell 0 5 1 5 1] (.seq (.ai (rG 141 2)) (.cond (.tmp 22) (.ai (rG 141 3)) .skip)))
def aqC:aj:=(.seq (.seq (.ai (rG 141 0)) (.cond (.tmp 9) (.ai (rG 141 1)) .skip)) aqB)
def awe:aK:=⟨33,aqC,[],some ([1000001,1000002,1000003],[(0,.id 0),(1,.id 1),(2,.id 2),(3,.id 3)],[]),false⟩
theorem aiK:aW Go.Proofs.Tryz.prog cB 141=some (aO awe):=by kernel_rfl
def aqD:aj:=(.keep [0,1000001,1000002,1000003] [(0,.id 0),(1,.id 1),(2,.id 2),(3,.id 3)] [] (.ai (rG 142 5)))
def aqE:aj:=(.seq (.block 0 (.seq (.ai (rG 142 0)) (.cond (.tmp 14) (.ai (rG 142 1)) (.seq (.ai (rG 142 2)) (.cond (.tmp 32) (.cU (rG 142 3) []) (.ai (rG 142 4))))))) aqD)
def awf:aK:=⟨55,aqE,[],some ([1000001,1000002,1000003],[(0,.id 0),(2,.id 2),(3,.id 3),(1,.id 1)],[]),false⟩
theorem aiL:aW Go.Proofs.Tryz.prog cB 142=some (aO awf):=by kernel_rfl
def aqF:aj:=(.cond (.tmp 76) (.seq (.ai (rG 103 13)) (.cond (.tmp 79) (.ai (rG 103 14)) (.ai (rG 103 15)))) (.seq (.ai (rG 103 16)) (.cond (.tmp 10) (.seq (.ai (rG 103 17)) (.ai (rG 103 18))) (.ai (rG 103 19)))))
def aqG:aj:=(.cond (.tmp 39) (.ai (rG 103 6)) (.seq (.ai (rG 103 7)) (.cond (.tmp 44) (.seq (.ai (rG 103 8)) (.ai (rG 103 9))) (.seq (.ai (rG 103 10)) (.cond (.tmp 64) (.ai (rG 103 11)) (.seq (.ai (rG 103 12)) aqF))))))
def aqH:aj:=(.seq (.ai (rG 103 0)) (.block 0 (.seq (.ai (rG 103 1)) (.cond (.tmp 21) (.seq (.ai (rG 103 2)) (.cond (.tmp 24) (.ai (rG 103 3)) (.ai (rG 103 4)))) (.seq (.ai (rG 103 5)) aqG)))))
def awg:aK:=⟨87,aqH,[],some ([1000001,1000002,1000003],[(0,.id 0),(1,.id 1),(2,.id 2),(3,.id 3)],[.cell 0 5 1 5 1]),false⟩
theorem aiM:aW Go.Proofs.Tryz.prog cB 103=some (aO awg):=by kernel_rfl
def ax7:aj:=(.keep [1,4,8,23,24] [(40,.id 40),(176,.id 176),(160,.id 160),(449,.id 449),(450,.id 450)] [] (.seq (.block 1 (.seq (.ai (rG 71 7)) (.ai (rG 71 8)))) (.ai (rG 71 9))))
def ax8:aj:=(.keep [1,4,8,23,24,25] [(40,.id 40),(176,.id 176),(160,.id 160),(449,.id 449),(450,.id 450)] [] (.seq (.cond (.tmp 25) .skip (.keep [4,8] [(40,.id 40),(176,.id 176),(160,.id 160),(449,.id 449),(450,.id 450)] [] (.exit 0))) ax7))
def ax9:aj:=(.keep [1,4,8,23,24] [(40,.id 40),(176,.id 176),(160,.id 160),(449,(.cell 176 6)),(450,(.cell 176 7))] [.cell 176 6 449 5 1,.cell 176 7 450 151 4] (.seq (.ai (rG 71 6)) ax8))
def ax_:aj:=(.keep [4,8] [(40,.id 40),(176,.id 176),(160,.id 160),(449,.id 449),(450,.id 450)] [] (.seq (.ai (rG 71 10)) (.seq (.ai (rG 71 11)) (.seq (.cU (rG 71 12) [(7,8)]) .ret))))
def aya:aj:=(.keep [1,2,4] [(24,.id 24),(40,.id 40)] [] (.seq (.ai (rG 71 4)) (.seq (.seq (.ai (rG 71 5)) (.block 0 (.loop ax9))) ax_)))
def ayb:aj:=(.seq (.ai (rG 71 0)) (.seq (.seq (.ai (rG 71 1)) (.seq (.ai (rG 71 2)) (.cond (.tmp 13) (.seq (.ai (rG 71 3)) .ret) .skip))) aya))
def c71:aK:=⟨52,ayb,[(.cell 4 .true 5),(.tmp 5),(.tmp 6)],some ([4,5,6],[(40,.id 40),(451,(.slot 5 none))],[]),false⟩
theorem ZB:aW Go.Proofs.Tryz.prog cB 71=some (aO c71):=by kernel_rfl
def ayd:aj:=(.seq (.ai (rG 51 0)) (.seq (.ai (rG 51 1)) .ret))
def c51:aK:=⟨13,ayd,[(.tmp 2)],some ([2],[],[]),false⟩
theorem aqJ:aW Go.Proofs.Tryz.prog cB 51=some (aO c51):=by kernel_rfl
def aiN:aj:=(.keep [0,1,7,8] [] [] (.seq (.block 1 (.seq (.ai (rG 84 3)) (.seq (.ai (rG 84 4)) (.cond (.tmp 16) (.seq (.ai (rG 84 5)) .ret) .skip)))) (.ai (rG 84 6))))
def aiO:aj:=(.keep [0,1,7,8,9] [] [] (.seq (.cond (.tmp 9) .skip (.keep [] [] [] (.exit 0))) aiN))
def aiP:aj:=(.keep [0,1,7,8] [] [] (.seq (.ai (rG 84 2)) aiO))
def aye:aj:=(.seq (.ai (rG 84 0)) (.seq (.seq (.ai (rG 84 1)) (.block 0 (.loop aiP))) (.seq (.ai (rG 84 7)) .ret)))
def Wd:aK:=⟨19,aye,[(.tmp 4)],some ([4],[],[]),false⟩
theorem aqK:aW Go.Proofs.Tryz.prog cB 84=some (aO Wd):=by kernel_rfl
def ayf:aj:=(.seq (.ai (rG 50 0)) (.seq (.ai (rG 50 1)) .ret))
def c50:aK:=⟨9,ayf,[(.tmp 4)],some ([4],[],[]),false⟩
theorem aqM:aW Go.Proofs.Tryz.prog cB 50=some (aO c50):=by kernel_rfl
def aiQ:aj:=(.keep [0,1,5,7,8,1000000] [(0,.id 0)] [] (.ai (rG 52 6)))
def aiR:aj:=(.ai (rG 52 7))
def aiS:aj:=(.keep [0,1,7,8,1000000] [(0,.id 0)] [] (.seq (.block 1 (.seq (.ai (rG 52 3)) (.seq (.seq (.ai (rG 52 4)) (.cond (.tmp 14) (.ai (rG 52 5)) .skip)) aiQ))) aiR))
def aiT:aj:=(.keep [0,1,7,8,9,1000000] [(0,.id 0)] [] (.seq (.cond (.tmp 9) .skip (.keep [0,1000000] [(0,.id 0)] [] (.exit 0))) aiS))
def aiU:aj:=(.keep [0,1,7,8,1000000] [(0,.id 0)] [] (.seq (.ai (rG 52 2)) aiT))
def ayg:aj:=(.seq (.ai (rG 52 0)) (.seq (.seq (.ai (rG 52 1)) (.block 0 (.loop aiU))) (.seq (.ai (rG 52 8)) .ret)))
def c52:aK:=⟨26,ayg,[(.tmp 4)],some ([4,1000000],[(0,.id 0)],[]),false⟩
theorem aqO:aW Go.Proofs.Tryz.prog cB 52=some (aO c52):=by kernel_rfl
def aiV:aj:=(.keep [4,6,7,15,16,17] [(40,.id 40),(56,.id 56)] [] (.seq (.cU (rG 18 12) [(2,5),(3,5)]) (.seq (.ai (rG 18 13)) (.cond (.tmp 39) (.cU (rG 18 14) [(1,4),(2,4)]) .skip))))
def aiW:aj:=(.keep [4,6,15,16,17] [(40,.id 40),(56,.id 56)] [] (.seq (.ai (rG 18 9)) (.seq (.seq (.ai (rG 18 10)) (.cond (.tmp 30) (.ai (rG 18 11)) .skip)) aiV)))
def We:aj:=(.ai (rG 18 15))
def aiX:aj:=(.keep [4,15,16,17] [(40,.id 40)] [] (.seq (.block 1 (.seq (.ai (rG 18 6)) (.seq (.seq (.ai (rG 18 7)) (.cond (.tmp 28) (.seq (.ai (rG 18 8)) .ret) .skip)) aiW))) We))
def aiY:aj:=(.keep [4,15,16,17,18] [(40,.id 40)] [] (.seq (.cond (.tmp 18) .skip (.keep [4] [(40,.id 40)] [] (.exit 0))) aiX))
def aiZ:aj:=(.keep [4,15,16,17] [(40,.id 40)] [] (.seq (.ai (rG 18 5)) aiY))
def ai0:aj:=(.keep [0] [] [] (.seq (.ai (rG 18 3)) (.seq (.seq (.ai (rG 18 4)) (.block 0 (.loop aiZ))) (.seq (.ai (rG 18 16)) .ret))))
def ayh:aj:=(.seq (.ai (rG 18 0)) (.seq (.seq (.ai (rG 18 1)) (.cond (.tmp 14) (.seq (.ai (rG 18 2)) .ret) .skip)) ai0))
def c18:aK:=⟨49,ayh,[(.tmp 2),(.tmp 3)],some ([2,3],[],[]),false⟩
theorem aqP:aW Go.Proofs.Tryz.prog cB 18=some (aO c18):=by kernel_rfl
def ai1:aj:=(.keep [0] [] [] (.seq (.ai (rG 85 9)) (.cond (.tmp 25) (.seq (.ai (rG 85 10)) .ret) (.seq (.ai (rG 85 11)) (.cond (.tmp 28) (.seq (.ai (rG 85 12)) .ret) (.seq (.ai (rG 85 13)) (.cond (.tmp 31) (.seq (.ai (rG 85 14)) .ret) .skip)))))))
def ai2:aj:=(.keep [0] [] [] (.seq (.ai (rG 85 3)) (.cond (.tmp 12) (.seq (.ai (rG 85 4)) .ret) (.seq (.ai (rG 85 5)) (.cond (.tmp 15) (.seq (.ai (rG 85 6)) .ret) (.seq (.ai (rG 85 7)) (.cond (.tmp 18) (.seq (.ai (rG 85 8)) .ret) ai1)))))))
def Wf:aj:=(.seq (.ai (rG 85 15)) .ret)
def ayi:aj:=(.seq (.ai (rG 85 0)) (.seq (.block 0 (.seq (.ai (rG 85 1)) (.cond (.tmp 5) (.seq (.ai (rG 85 2)) .ret) ai2))) Wf))
def c85:aK:=⟨38,ayi,[(.tmp 2),(.tmp 3),(.tmp 4)],some ([2,3,4],[],[]),false⟩
theorem aqR:aW Go.Proofs.Tryz.prog cB 85=some (aO c85):=by kernel_rfl
def ai3:aj:=(.keep [0,4,5,6,7] [] [] (.seq (.seq (.ai (rG 53 5)) (.cond (.tmp 39) .skip (.keep [4,7] [] [] (.exit 0)))) (.block 1 (.seq (.ai (rG 53 6)) (.ai (rG 53 7))))))
def ai4:aj:=(.keep [0,4,5,6] [] [] (.seq (.ai (rG 53 4)) (.seq (.block 0 (.loop ai3)) (.seq (.ai (rG 53 8)) .ret))))
def ayj:aj:=(.seq (.ai (rG 53 0)) (.seq (.ai (rG 53 1)) (.seq (.seq (.ai (rG 53 2)) (.cond (.tmp 16) (.seq (.ai (rG 53 3)) .ret) .skip)) ai4)))
def c53:aK:=⟨46,ayj,[(.tmp 2),(.tmp 3)],some ([2,3],[],[]),false⟩
theorem aqT:aW Go.Proofs.Tryz.prog cB 53=some (aO c53):=by kernel_rfl
def ai5:aj:=(.keep [0] [] [] (.seq (.seq (.ai (rG 20 3)) (.seq (.ai (rG 20 4)) (.cond (.tmp 18) (.seq (.ai (rG 20 5)) .ret) .skip))) (.seq (.ai (rG 20 6)) .ret)))
def ayk:aj:=(.seq (.ai (rG 20 0)) (.seq (.seq (.ai (rG 20 1)) (.cond (.tmp 6) (.seq (.ai (rG 20 2)) .ret) .skip)) ai5))
def c20:aK:=⟨19,ayk,[(.tmp 2)],some ([2],[],[]),false⟩
theorem aqU:aW Go.Proofs.Tryz.prog cB 20=some (aO c20):=by kernel_rfl
def ZC:aj:=(.keep [0,14,15] [] [] (.seq (.block 1 (.seq (.ai (rG 54 5)) (.seq (.ai (rG 54 6)) (.cond (.tmp 33) (.seq (.ai (rG 54 7)) .ret) .skip)))) (.ai (rG 54 8))))
def ZE:aj:=(.keep [0,14,15,16] [] [] (.seq (.cond (.tmp 16) .skip (.keep [0] [] [] (.exit 0))) ZC))
def ZF:aj:=(.keep [0,14,15] [] [] (.seq (.ai (rG 54 4)) ZE))
def ai6:aj:=(.keep [5,7,8,36,37,38,46,47] [(48,.id 48)] [] (.seq (.block 5 (.seq (.ai (rG 54 17)) (.ai (rG 54 18)))) (.ai (rG 54 19))))
def ai7:aj:=(.keep [5,7,8,36,37,38,46,47,48] [(48,.id 48)] [] (.seq (.cond (.tmp 48) .skip (.keep [5,8,36,37,38] [(48,.id 48)] [] (.exit 4))) ai6))
def ai8:aj:=(.keep [5,7,8,36,37,38,46,47] [(48,.id 48)] [] (.seq (.ai (rG 54 16)) ai7))
def ai9:aj:=(.keep [5,7,36,37,38] [(48,.id 48)] [] (.seq (.ai (rG 54 14)) (.seq (.seq (.ai (rG 54 15)) (.block 4 (.loop ai8))) (.ai (rG 54 20)))))
def ai_:aj:=(.ai (rG 54 21))
def aja:aj:=(.keep [5,36,37,38] [(48,.id 48)] [] (.seq (.block 3 (.seq (.ai (rG 54 12)) (.seq (.seq (.ai (rG 54 13)) (.cond (.tmp 44) (.keep [5] [(48,.id 48)] [] (.exit 2)) .skip)) ai9))) ai_))
def ajb:aj:=(.keep [5,36,37,38,39] [(48,.id 48)] [] (.seq (.cond (.tmp 39) .skip (.keep [5] [(48,.id 48)] [] (.exit 2))) aja))
def ajc:aj:=(.keep [5,36,37,38] [(48,.id 48)] [] (.seq (.ai (rG 54 11)) ajb))
def ajd:aj:=(.keep [0] [] [] (.seq (.ai (rG 54 9)) (.seq (.seq (.ai (rG 54 10)) (.block 2 (.loop ajc))) (.seq (.ai (rG 54 22)) .ret))))
def ZG:aj:=(.keep [0] [] [] (.seq (.seq (.ai (rG 54 3)) (.block 0 (.loop ZF))) ajd))
def ayl:aj:=(.seq (.ai (rG 54 0)) (.seq (.seq (.ai (rG 54 1)) (.cond (.tmp 12) (.seq (.ai (rG 54 2)) .ret) .skip)) ZG))
def Wh:aK:=⟨67,ayl,[(.tmp 2),(.tmp 3)],some ([2,3],[(569,(.slot 2 none))],[]),false⟩
theorem aqV:aW Go.Proofs.Tryz.prog cB 54=some (aO Wh):=by kernel_rfl
def aym:aj:=(.seq (.ai (rG 55 0)) (.seq (.ai (rG 55 1)) .ret))
def c55:aK:=⟨15,aym,[(.tmp 6)],some ([6],[],[]),false⟩
theorem aqX:aW Go.Proofs.Tryz.prog cB 55=some (aO c55):=by kernel_rfl
def aje:aj:=(.keep [0,1,7,8] [] [] (.seq (.block 1 (.seq (.ai (rG 56 3)) (.seq (.ai (rG 56 4)) (.cond (.tmp 16) (.seq (.ai (rG 56 5)) .ret) .skip)))) (.ai (rG 56 6))))
def ajf:aj:=(.keep [0,1,7,8,9] [] [] (.seq (.cond (.tmp 9) .skip (.keep [0,1] [] [] (.exit 0))) aje))
def ajg:aj:=(.keep [0,1,7,8] [] [] (.seq (.ai (rG 56 2)) ajf))
def ayn:aj:=(.seq (.ai (rG 56 0)) (.seq (.seq (.ai (rG 56 1)) (.block 0 (.loop ajg))) (.seq (.ai (rG 56 7)) .ret)))
def Wi:aK:=⟨22,ayn,[(.tmp 4)],some ([4],[],[]),false⟩
theorem aqY:aW Go.Proofs.Tryz.prog cB 56=some (aO Wi):=by kernel_rfl
def ajh:aj:=(.keep [1,6] [(16,.id 16)] [] (.seq (.ai (rG 21 7)) (.seq (.seq (.ai (rG 21 8)) (.cond (.tmp 107) (.seq (.ai (rG 21 9)) .ret) .skip)) (.seq (.ai (rG 21 10)) .ret))))
def aji:aj:=(.keep [1,5,6] [(16,.id 16)] [] (.seq (.ai (rG 21 6)) ajh))
def ajj:aj:=(.keep [1,3,5,6] [(16,.id 16)] [] (.seq (.ai (rG 21 5)) aji))
def ajk:aj:=(.keep [1,3] [(16,.id 16)] [] (.seq (.ai (rG 21 2)) (.seq (.ai (rG 21 3)) (.seq (.ai (rG 21 4)) ajj))))
def ayo:aj:=(.seq (.ai (rG 21 0)) (.seq (.ai (rG 21 1)) ajk))
def c21:aK:=⟨108,ayo,[(.tmp 2)],some ([2],[],[]),false⟩
theorem aq0:aW Go.Proofs.Tryz.prog cB 21=some (aO c21):=by kernel_rfl
def ayp:aj:=(.seq (.ai (rG 88 0)) (.seq (.seq (.ai (rG 88 1)) (.cond (.tmp 18) (.seq (.ai (rG 88 2)) .ret) .skip)) (.seq (.ai (rG 88 3)) .ret)))
def c88:aK:=⟨19,ayp,[(.tmp 4)],some ([4],[],[]),false⟩
theorem aq2:aW Go.Proofs.Tryz.prog cB 88=some (aO c88):=by kernel_rfl
def ayq:aj:=(.seq (.ai (rG 89 0)) (.seq (.ai (rG 89 1)) .ret))
def c89:aK:=⟨17,ayq,[(.tmp 4)],some ([4,2000000],[(0,.id 0)],[]),false⟩
theorem aq3:aW Go.Proofs.Tryz.prog cB 89=some (aO c89):=by kernel_rfl
def ayr:aj:=(.seq (.ai (rG 92 0)) (.seq (.ai (rG 92 1)) .ret))
def c92:aK:=⟨17,ayr,[(.tmp 2)],some ([2],[],[]),false⟩
theorem aq5:aW Go.Proofs.Tryz.prog cB 92=some (aO c92):=by kernel_rfl
def ays:aj:=(.seq (.ai (rG 59 0)) (.seq (.seq (.ai (rG 59 1)) (.cond (.tmp 22) (.seq (.ai (rG 59 2)) .ret) .skip)) (.seq (.ai (rG 59 3)) .ret)))
def c59:aK:=⟨23,ays,[(.tmp 2)],some ([2],[],[]),false⟩
theorem aq7:aW Go.Proofs.Tryz.prog cB 59=some (aO c59):=by kernel_rfl
def ZH:aj:=(.keep [0,7,8,9] [] [] (.seq (.block 1 (.seq (.ai (rG 126 3)) (.seq (.ai (rG 126 4)) (.cond (.tmp 22) (.seq (.ai (rG 126 5)) .ret) .skip)))) (.ai (rG 126 6))))
def ZI:aj:=(.keep [0,7,8,9,10] [] [] (.seq (.cond (.tmp 10) .skip (.keep [] [] [] (.exit 0))) ZH))
def ZJ:aj:=(.keep [0,7,8,9] [] [] (.seq (.ai (rG 126 2)) ZI))
def aq8:aj:=(.seq (.ai (rG 126 0)) (.seq (.seq (.ai (rG 126 1)) (.block 0 (.loop ZJ))) (.seq (.ai (rG 126 7)) .ret)))
def Jb:aK:=⟨24,aq8,[(.tmp 4)],some ([4],[],[]),false⟩
theorem ajm:aW Go.Proofs.Tryz.prog cB 126=some (aO Jb):=by kernel_rfl
def ajn:aj:=(.keep [0,4,25] [(40,.id 40)] [] (.cond (.tmp 25) (.seq (.ai (rG 90 4)) .ret) (.seq (.ai (rG 90 5)) (.cond (.tmp 37) (.seq (.ai (rG 90 6)) .ret) .skip))))
def ajo:aj:=(.seq (.ai (rG 90 7)) .ret)
def ayt:aj:=(.seq (.ai (rG 90 0)) (.seq (.ai (rG 90 1)) (.seq (.ai (rG 90 2)) (.seq (.block 0 (.seq (.ai (rG 90 3)) ajn)) ajo))))
def c90:aK:=⟨41,ayt,[(.tmp 2)],some ([2],[],[]),false⟩
theorem aq_:aW Go.Proofs.Tryz.prog cB 90=some (aO c90):=by kernel_rfl
def ara:aj:=(.seq (.ai (rG 127 0)) (.seq (.cU (rG 127 1) []) .ret))
def ZM:aK:=⟨30,ara,[(.tmp 3)],some ([3],[],[]),false⟩
theorem ajp:aW Go.Proofs.Tryz.prog cB 127=some (aO ZM):=by kernel_rfl
def ajq:aj:=(.keep [1,2,5] [(24,.id 24)] [] (.seq (.ai (rG 91 4)) .ret))
def ayu:aj:=(.seq (.ai (rG 91 0)) (.seq (.ai (rG 91 1)) (.seq (.seq (.ai (rG 91 2)) (.cond (.tmp 12) (.seq (.ai (rG 91 3)) .ret) .skip)) ajq)))
def c91:aK:=⟨45,ayu,[(.tmp 4)],some ([4],[],[]),false⟩
theorem arc:aW Go.Proofs.Tryz.prog cB 91=some (aO c91):=by kernel_rfl
def ajr:aj:=(.keep [1,5,26,27,33,34,35] [(16,.id 16)] [] (.seq (.block 3 (.seq (.ai (rG 57 12)) (.seq (.ai (rG 57 13)) (.cond (.tmp 59) (.seq (.ai (rG 57 14)) .ret) .skip)))) (.ai (rG 57 15))))
def ajs:aj:=(.keep [1,5,26,27,33,34,35,36] [(16,.id 16)] [] (.seq (.cond (.tmp 36) .skip (.keep [1,26,27] [(16,.id 16)] [] (.exit 2))) ajr))
def ajt:aj:=(.keep [1,5,26,27,33,34,35] [(16,.id 16)] [] (.seq (.ai (rG 57 11)) ajs))
def aju:aj:=(.keep [1,26,27] [(16,.id 16)] [] (.seq (.block 1 (.seq (.ai (rG 57 8)) (.seq (.ai (rG 57 9)) (.seq (.ai (rG 57 10)) (.block 2 (.loop ajt)))))) (.ai (rG 57 16))))
def ajv:aj:=(.keep [1,26,27,28] [(16,.id 16)] [] (.seq (.cond (.tmp 28) .skip (.keep [] [] [] (.exit 0))) aju))
def ajw:aj:=(.keep [1,26,27] [(16,.id 16)] [] (.seq (.ai (rG 57 7)) ajv))
def ajx:aj:=(.keep [1] [(16,.id 16)] [] (.seq (.seq (.ai (rG 57 6)) (.block 0 (.loop ajw))) (.seq (.ai (rG 57 17)) .ret)))
def ajy:aj:=(.keep [1] [(16,.id 16)] [] (.seq (.seq (.ai (rG 57 4)) (.cond (.tmp 24) (.seq (.ai (rG 57 5)) .ret) .skip)) ajx))
def ayv:aj:=(.seq (.ai (rG 57 0)) (.seq (.seq (.ai (rG 57 1)) (.seq (.ai (rG 57 2)) (.cond (.tmp 14) (.seq (.ai (rG 57 3)) .ret) .skip))) ajy))
def SD:aK:=⟨62,ayv,[(.tmp 2)],some ([2],[],[]),false⟩
theorem ard:aW Go.Proofs.Tryz.prog cB 57=some (aO SD):=by kernel_rfl
def ayw:aj:=(.seq (.ai (rG 58 0)) (.seq (.ai (rG 58 1)) .ret))
def c58:aK:=⟨15,ayw,[(.tmp 6)],some ([6],[],[]),false⟩
theorem arh:aW Go.Proofs.Tryz.prog cB 58=some (aO c58):=by kernel_rfl
def ayx:aj:=(.seq (.ai (rG 60 0)) (.seq (.ai (rG 60 1)) .ret))
def c60:aK:=⟨9,ayx,[(.tmp 2)],some ([2],[],[]),false⟩
theorem arj:aW Go.Proofs.Tryz.prog cB 60=some (aO c60):=by kernel_rfl
def ajz:aj:=(.keep [0,5,6,7] [] [] (.seq (.block 1 (.seq (.ai (rG 61 3)) (.seq (.ai (rG 61 4)) (.cond (.tmp 18) (.seq (.ai (rG 61 5)) .ret) .skip)))) (.ai (rG 61 6))))
def ajA:aj:=(.keep [0,5,6,7,8] [] [] (.seq (.cond (.tmp 8) .skip (.keep [0] [] [] (.exit 0))) ajz))
def ajB:aj:=(.keep [0,5,6,7] [] [] (.seq (.ai (rG 61 2)) ajA))
def ayy:aj:=(.seq (.ai (rG 61 0)) (.seq (.seq (.ai (rG 61 1)) (.block 0 (.loop ajB))) (.seq (.ai (rG 61 7)) .ret)))
def Wj:aK:=⟨23,ayy,[(.tmp 2)],some ([2],[],[]),false⟩
theorem ark:aW Go.Proofs.Tryz.prog cB 61=some (aO Wj):=by kernel_rfl
def Jc:aj:=(.keep [1,5,98] [(16,.id 16)] [] (.seq (.block 1 (.seq (.ai (rG 22 8)) (.ai (rG 22 9)))) (.ai (rG 22 10))))
def Jd:aj:=(.loop (.seq (.ai (rG 22 7)) (.seq (.cond (.tmp 99) .skip (.exit 0)) Jc)))
def ajC:aj:=(.keep [1,5] [(16,.id 16)] [] (.seq (.ai (rG 22 13)) (.seq (.seq (.ai (rG 22 14)) (.cond (.tmp 156) (.seq (.ai (rG 22 15)) .ret) .skip)) (.seq (.ai (rG 22 16)) .ret))))
def ajD:aj:=(.keep [1,5] [(16,.id 16)] [] (.seq (.ai (rG 22 12)) ajC))
def E4:aj:=(.keep [1,5] [(16,.id 16)] [] (.seq (.ai (rG 22 11)) ajD))
def ajE:aj:=(.keep [1,5] [(16,.id 16)] [] (.seq (.seq (.ai (rG 22 6)) (.block 0 Jd)) E4))
def ajF:aj:=(.keep [1,5] [(16,.id 16)] [] (.seq (.ai (rG 22 5)) ajE))
def ajG:aj:=(.keep [1,3,5] [(16,.id 16),(32,.id 32)] [] (.seq (.ai (rG 22 4)) ajF))
def ajH:aj:=(.keep [1,3,5] [(16,.id 16),(32,.id 32)] [] (.seq (.ai (rG 22 3)) ajG))
def ayz:aj:=(.seq (.ai (rG 22 0)) (.seq (.cU (rG 22 1) [(1,4),(3,4),(1,5),(3,5),(4,5),(3,6)]) (.seq (.ai (rG 22 2)) ajH)))
def c22:aK:=⟨157,ayz,[(.tmp 2)],some ([2],[],[]),false⟩
theorem arn:aW Go.Proofs.Tryz.prog cB 22=some (aO c22):=by kernel_rfl
def ayA:aj:=(.seq (.ai (rG 62 0)) (.seq (.ai (rG 62 1)) .ret))
def c62:aK:=⟨9,ayA,[(.tmp 2)],some ([2],[],[]),false⟩
theorem arp:aW Go.Proofs.Tryz.prog cB 62=some (aO c62):=by kernel_rfl
def Wk:aj:=(.keep [11,12,15,16] [] [] (.seq (.block 3 (.seq (.ai (rG 23 6)) (.seq (.ai (rG 23 7)) (.cond (.tmp 22) (.seq (.ai (rG 23 8)) .ret) .skip)))) (.ai (rG 23 9))))
def Wl:aj:=(.keep [11,12,15,16,17] [] [] (.seq (.cond (.tmp 17) .skip (.keep [11,12] [] [] (.exit 2))) Wk))
def Wm:aj:=(.keep [11,12,15,16] [] [] (.seq (.ai (rG 23 5)) Wl))
def Wn:aj:=(.keep [11,12] [] [] (.seq (.block 1 (.seq (.ai (rG 23 3)) (.seq (.ai (rG 23 4)) (.block 2 (.loop Wm))))) (.ai (rG 23 10))))
def Wo:aj:=(.loop (.seq (.ai (rG 23 2)) (.seq (.cond (.tmp 13) .skip (.exit 0)) Wn)))
def Wp:aj:=(.seq (.ai (rG 23 11)) .ret)
def ayB:aj:=(.seq (.ai (rG 23 0)) (.seq (.seq (.ai (rG 23 1)) (.block 0 Wo)) Wp))
def Pf:aK:=⟨25,ayB,[(.tmp 2)],some ([2],[],[]),false⟩
theorem arq:aW Go.Proofs.Tryz.prog cB 23=some (aO Pf):=by kernel_rfl
def ajI:aj:=(.keep [0,5,6] [] [] (.seq (.block 1 (.seq (.ai (rG 63 3)) (.seq (.ai (rG 63 4)) (.cond (.tmp 18) (.seq (.ai (rG 63 5)) .ret) .skip)))) (.ai (rG 63 6))))
def ajJ:aj:=(.keep [0,5,6,7] [] [] (.seq (.cond (.tmp 7) .skip (.keep [0] [] [] (.exit 0))) ajI))
def ajK:aj:=(.keep [0,5,6] [] [] (.seq (.ai (rG 63 2)) ajJ))
def ajL:aj:=(.keep [0] [] [] (.seq (.ai (rG 63 7)) .ret))
def ayC:aj:=(.seq (.ai (rG 63 0)) (.seq (.seq (.ai (rG 63 1)) (.block 0 (.loop ajK))) ajL))
def Wq:aK:=⟨27,ayC,[(.tmp 2)],some ([2],[],[]),false⟩
theorem ars:aW Go.Proofs.Tryz.prog cB 63=some (aO Wq):=by kernel_rfl
def ajM:aj:=(.keep [0,1,7,8] [] [] (.seq (.block 1 (.seq (.ai (rG 93 3)) (.seq (.ai (rG 93 4)) (.cond (.tmp 16) (.seq (.ai (rG 93 5)) .ret) .skip)))) (.ai (rG 93 6))))
def ajN:aj:=(.keep [0,1,7,8,9] [] [] (.seq (.cond (.tmp 9) .skip (.keep [] [] [] (.exit 0))) ajM))
def ajO:aj:=(.keep [0,1,7,8] [] [] (.seq (.ai (rG 93 2)) ajN))
def ayD:aj:=(.seq (.ai (rG 93 0)) (.seq (.seq (.ai (rG 93 1)) (.block 0 (.loop ajO))) (.seq (.ai (rG 93 7)) .ret)))
def Ws:aK:=⟨19,ayD,[(.tmp 4)],some ([4],[],[]),false⟩
theorem art:aW Go.Proofs.Tryz.prog cB 93=some (aO Ws):=by kernel_rfl
def ayE:aj:=(.seq (.ai (rG 64 0)) (.seq (.ai (rG 64 1)) .ret))
def c64:aK:=⟨9,ayE,[(.tmp 4)],some ([4],[],[]),false⟩
theorem arv:aW Go.Proofs.Tryz.prog cB 64=some (aO c64):=by kernel_rfl
def ajP:aj:=(.keep [1,16,17,18] [(16,.id 16)] [] (.seq (.block 1 (.seq (.ai (rG 24 5)) (.seq (.ai (rG 24 6)) (.cond (.tmp 33) (.seq (.ai (rG 24 7)) .ret) .skip)))) (.ai (rG 24 8))))
def ajQ:aj:=(.keep [1,16,17,18,19] [(16,.id 16)] [] (.seq (.cond (.tmp 19) .skip (.keep [1] [(16,.id 16)] [] (.exit 0))) ajP))
def ajR:aj:=(.keep [1,16,17,18] [(16,.id 16)] [] (.seq (.ai (rG 24 4)) ajQ))
def ajS:aj:=(.keep [1] [(16,.id 16)] [] (.seq (.seq (.ai (rG 24 9)) (.cond (.tmp 45) (.seq (.ai (rG 24 10)) .ret) .skip)) (.seq (.ai (rG 24 11)) .ret)))
def ajT:aj:=(.keep [1] [(16,.id 16)] [] (.seq (.seq (.ai (rG 24 3)) (.block 0 (.loop ajR))) ajS))
def ayF:aj:=(.seq (.ai (rG 24 0)) (.seq (.seq (.ai (rG 24 1)) (.cond (.tmp 14) (.seq (.ai (rG 24 2)) .ret) .skip)) ajT))
def Wt:aK:=⟨46,ayF,[(.tmp 2)],some ([2],[],[]),false⟩
theorem arw:aW Go.Proofs.Tryz.prog cB 24=some (aO Wt):=by kernel_rfl
def ajU:aj:=(.keep [1,6,7] [(16,.id 16)] [] (.seq (.block 1 (.seq (.ai (rG 25 3)) (.seq (.ai (rG 25 4)) (.cond (.tmp 11) (.seq (.ai (rG 25 5)) .ret) .skip)))) (.ai (rG 25 6))))
def ajV:aj:=(.keep [1,6,7,8] [(16,.id 16)] [] (.seq (.cond (.tmp 8) .skip (.keep [1] [(16,.id 16)] [] (.exit 0))) ajU))
def ajW:aj:=(.keep [1,6,7] [(16,.id 16)] [] (.seq (.ai (rG 25 2)) ajV))
def ajX:aj:=(.keep [1] [(16,.id 16)] [] (.seq (.seq (.ai (rG 25 7)) (.cond (.tmp 22) (.seq (.ai (rG 25 8)) .ret) .skip)) (.seq (.ai (rG 25 9)) .ret)))
def ayG:aj:=(.seq (.ai (rG 25 0)) (.seq (.seq (.ai (rG 25 1)) (.block 0 (.loop ajW))) ajX))
def Wu:aK:=⟨23,ayG,[(.tmp 2)],some ([2],[],[]),false⟩
theorem arx:aW Go.Proofs.Tryz.prog cB 25=some (aO Wu):=by kernel_rfl
def ayH:aj:=(.seq (.ai (rG 26 0)) (.seq (.seq (.ai (rG 26 1)) (.cond (.tmp 6) (.seq (.ai (rG 26 2)) .ret) .skip)) (.seq (.ai (rG 26 3)) .ret)))
def c26:aK:=⟨7,ayH,[(.tmp 2)],some ([2],[],[]),false⟩
theorem arz:aW Go.Proofs.Tryz.prog cB 26=some (aO c26):=by kernel_rfl
def aBT:aj:=(.cU (rG 7 2) [(2,4),(2,7),(5,7),(2,10),(5,10),(8,10),(2,13),(5,13),(8,13),(11,13),(2,16),(5,16),(8,16),(11,16),(14,16),(2,20),(5,20),(8,20),(11,20),(14,20),(17,20),(2,23),(5,23),(8,23),(11,23),(14,23),(17,23),(21,23)])
def awh:aj:=(.keep [38,39] [] [] (.seq (.block 1 (.seq (.ai (rG 7 4)) (.seq (.ai (rG 7 5)) (.cond (.tmp 43) (.seq (.ai (rG 7 6)) .ret) .skip)))) (.ai (rG 7 7))))
def awi:aj:=(.keep [38,39,40] [] [] (.seq (.cond (.tmp 40) .skip (.keep [] [] [] (.exit 0))) awh))
def awj:aj:=(.keep [38,39] [] [] (.seq (.ai (rG 7 3)) awi))
def aBU:aj:=(.seq (.ai (rG 7 0)) (.seq (.ai (rG 7 1)) (.seq (.seq aBT (.block 0 (.loop awj))) (.seq (.ai (rG 7 8)) .ret))))
def c7:aK:=⟨45,aBU,[(.tmp 2)],some ([2],[],[]),false⟩
theorem ayI:aW Go.Proofs.Tryz.prog cB 7=some (aO c7):=by kernel_rfl
def Wv:aj:=(.seq (.ai (rG 70 0)) (.seq (.seq (.ai (rG 70 1)) (.cond (.tmp 4) (.seq (.ai (rG 70 2)) .ret) .skip)) (.seq (.ai (rG 70 3)) .ret)))
def Pg:aK:=⟨8,Wv,[(.tmp 2)],some ([2],[(97,(.slot 2 none))],[]),true⟩
theorem arA:aW Go.Proofs.Tryz.prog cB 70=some (aO Pg):=by kernel_rfl
def ayJ:aj:=(.seq (.ai (rG 69 0)) (.seq (.ai (rG 69 1)) (.seq (.ai (rG 69 2)) .ret)))
def c69:aK:=⟨8,ayJ,[(.cell 2 .true 3)],some ([2],[(24,.id 24),(48,.id 48)],[]),false⟩
theorem arB:aW Go.Proofs.Tryz.prog cB 69=some (aO c69):=by kernel_rfl
def ajZ:aj:=(.keep [1,2,3,15,16,17] [(16,.id 16),(72,.id 72),(96,.id 96),(24,.id 24),(32,.id 32)] [] (.seq (.block 1 (.seq (.ai (rG 38 5)) (.ai (rG 38 6)))) (.ai (rG 38 7))))
def aj0:aj:=(.keep [1,2,3,15,16,17,18] [(16,.id 16),(72,.id 72),(96,.id 96),(24,.id 24),(32,.id 32)] [] (.seq (.cond (.tmp 18) .skip (.keep [1,2,3] [(16,.id 16),(72,.id 72),(96,.id 96),(24,.id 24),(32,.id 32)] [] (.exit 0))) ajZ))
def aj1:aj:=(.keep [1,2,3,15,16,17] [(16,.id 16),(72,.id 72),(96,.id 96),(24,.id 24),(32,.id 32)] [.cell 24 2 0 0 1,.cell 24 30 0 0 1,.cell 24 32 0 0 1] (.seq (.ai (rG 38 4)) aj0))
def ayK:aj:=(.seq (.ai (rG 38 0)) (.seq (.cU (rG 38 1) [(2,4)]) (.seq (.ai (rG 38 2)) (.seq (.seq (.ai (rG 38 3)) (.block 0 (.loop aj1))) (.seq (.ai (rG 38 8)) (.seq (.ai (rG 38 9)) .ret))))))
def c38:aK:=⟨32,ayK,[(.cell 2 .true 33)],some ([2],[(24,.id 24),(72,.id 72),(96,.id 96),(32,.id 32)],[]),false⟩
theorem arC:aW Go.Proofs.Tryz.prog cB 38=some (aO c38):=by kernel_rfl
def Ww:aj:=(.seq (.ai (rG 39 0)) (.seq (.seq (.ai (rG 39 1)) (.cond (.tmp 4) (.seq (.ai (rG 39 2)) .ret) .skip)) (.seq (.ai (rG 39 3)) .ret)))
def Ph:aK:=⟨8,Ww,[(.tmp 2)],some ([2],[(97,(.slot 2 none))],[]),true⟩
theorem arD:aW Go.Proofs.Tryz.prog cB 39=some (aO Ph):=by kernel_rfl
def Wx:aj:=(.seq (.ai (rG 40 0)) (.seq (.seq (.ai (rG 40 1)) (.cond (.tmp 4) (.seq (.ai (rG 40 2)) .ret) .skip)) (.seq (.ai (rG 40 3)) .ret)))
def Pj:aK:=⟨8,Wx,[(.tmp 2)],some ([2],[(97,(.slot 2 none))],[]),true⟩
theorem arE:aW Go.Proofs.Tryz.prog cB 40=some (aO Pj):=by kernel_rfl
def ayL:aj:=(.seq (.ai (rG 14 0)) (.seq (.ai (rG 14 1)) (.seq (.cU (rG 14 2) [(3,5)]) (.seq (.ai (rG 14 3)) .ret))))
def c14:aK:=⟨18,ayL,[(.cell 2 .true 613)],some ([2],[(24,.id 24)],[]),false⟩
theorem arF:aW Go.Proofs.Tryz.prog cB 14=some (aO c14):=by kernel_rfl
def ayM:aj:=(.seq (.ai (rG 27 0)) (.seq (.ai (rG 27 1)) .ret))
def c27:aK:=⟨17,ayM,[(.tmp 2)],some ([2],[],[]),false⟩
theorem arH:aW Go.Proofs.Tryz.prog cB 27=some (aO c27):=by kernel_rfl
def aj3:aj:=(.keep [1,2] [] [] (.seq (.ai (rG 28 3)) .ret))
def ayN:aj:=(.seq (.ai (rG 28 0)) (.seq (.seq (.ai (rG 28 1)) (.cond (.tmp 8) (.seq (.ai (rG 28 2)) .ret) .skip)) aj3))
def c28:aK:=⟨23,ayN,[(.tmp 6)],some ([6],[],[]),false⟩
theorem arK:aW Go.Proofs.Tryz.prog cB 28=some (aO c28):=by kernel_rfl
def ayO:aj:=(.seq (.ai (rG 29 0)) (.seq (.ai (rG 29 1)) (.seq (.seq (.ai (rG 29 2)) (.cond (.tmp 10) (.ai (rG 29 3)) .skip)) (.seq (.ai (rG 29 4)) .ret))))
def c29:aK:=⟨19,ayO,[(.tmp 4)],some ([4],[],[]),false⟩
theorem arM:aW Go.Proofs.Tryz.prog cB 29=some (aO c29):=by kernel_rfl
def ZN:aj:=(.keep [0,1,5,25,1000000] [(0,.id 0)] [] (.cond (.tmp 25) (.seq (.ai (rG 160 6)) .ret) (.seq (.ai (rG 160 7)) (.cond (.tmp 50) (.seq (.ai (rG 160 8)) .ret) (.seq (.ai (rG 160 9)) .ret)))))
def arN:aj:=(.seq (.ai (rG 160 0)) (.seq (.ai (rG 160 1)) (.block 0 (.seq (.ai (rG 160 2)) (.cond (.tmp 11) (.seq (.ai (rG 160 3)) .ret) (.seq (.seq (.ai (rG 160 4)) (.cond (.tmp 25) .skip (.ai (rG 160 5)))) ZN))))))
def arO:aj:=arN
def ZO:aK:=⟨78,arO,[(.tmp 4)],some ([4,1000000],[(0,.id 0)],[]),false⟩
theorem aj4:aW Go.Proofs.Tryz.prog cB 160=some (aO ZO):=by kernel_rfl
def arP:aj:=(.seq (.ai (rG 115 0)) (.seq (.seq (.ai (rG 115 1)) (.cond (.tmp 7) (.seq (.ai (rG 115 2)) .ret) .skip)) (.seq (.ai (rG 115 3)) .ret)))
def ZP:aK:=⟨16,arP,[(.tmp 4)],some ([4,1000000],[(0,.id 0)],[]),false⟩
theorem aj5:aW Go.Proofs.Tryz.prog cB 115=some (aO ZP):=by kernel_rfl
def aj6:aj:=(.keep [3,6,7,8] [(32,.id 32)] [] (.seq (.block 1 (.seq (.ai (rG 78 4)) (.seq (.seq (.ai (rG 78 5)) (.cond (.tmp 25) (.ai (rG 78 6)) .skip)) (.ai (rG 78 7))))) (.ai (rG 78 8))))
def aj7:aj:=(.keep [3,6,7,8,9] [(32,.id 32)] [] (.seq (.cond (.tmp 9) .skip (.keep [3] [(32,.id 32)] [] (.exit 0))) aj6))
def aj8:aj:=(.keep [3,6,7,8] [(32,.id 32)] [] (.seq (.ai (rG 78 3)) aj7))
def ayP:aj:=(.seq (.ai (rG 78 0)) (.seq (.ai (rG 78 1)) (.seq (.seq (.ai (rG 78 2)) (.block 0 (.loop aj8))) (.seq (.ai (rG 78 9)) .ret))))
def c78:aK:=⟨33,ayP,[(.tmp 2)],some ([2],[],[]),false⟩
theorem arR:aW Go.Proofs.Tryz.prog cB 78=some (aO c78):=by kernel_rfl
def aj9:aj:=(.keep [0] [] [] (.ai (rG 65 3)))
def aj_:aj:=(.keep [0] [] [] (.seq (.ai (rG 65 4)) (.cond (.tmp 25) (.ai (rG 65 5)) (.seq (.ai (rG 65 6)) (.cond (.tmp 28) (.ai (rG 65 7)) .skip)))))
def Wy:aj:=(.seq (.ai (rG 65 8)) .ret)
def ayQ:aj:=(.seq (.ai (rG 65 0)) (.seq (.seq (.ai (rG 65 1)) (.cond (.tmp 7) (.block 0 (.seq (.ai (rG 65 2)) (.cond (.tmp 8) aj9 aj_))) .skip)) Wy))
def c65:aK:=⟨34,ayQ,[(.tmp 4)],some ([4],[],[]),false⟩
theorem arT:aW Go.Proofs.Tryz.prog cB 65=some (aO c65):=by kernel_rfl
def aka:aj:=(.keep [1] [(16,.id 16)] [] (.seq (.ai (rG 30 9)) (.cond (.tmp 31) (.seq (.ai (rG 30 10)) .ret) (.seq (.ai (rG 30 11)) (.cond (.tmp 35) (.seq (.ai (rG 30 12)) .ret) .skip)))))
def akb:aj:=(.keep [1] [(16,.id 16)] [] (.seq (.ai (rG 30 5)) (.cond (.tmp 17) (.seq (.ai (rG 30 6)) .ret) (.seq (.ai (rG 30 7)) (.cond (.tmp 21) (.seq (.ai (rG 30 8)) .ret) aka)))))
def Wz:aj:=(.seq (.ai (rG 30 13)) .ret)
def ayR:aj:=(.seq (.ai (rG 30 0)) (.seq (.block 0 (.seq (.ai (rG 30 1)) (.cond (.tmp 3) (.seq (.ai (rG 30 2)) .ret) (.seq (.ai (rG 30 3)) (.cond (.tmp 7) (.seq (.ai (rG 30 4)) .ret) akb))))) Wz))
def c30:aK:=⟨44,ayR,[(.tmp 2)],some ([2],[],[]),false⟩
theorem arV:aW Go.Proofs.Tryz.prog cB 30=some (aO c30):=by kernel_rfl
def awk:aj:=(.keep [2,6,7] [(24,.id 24)] [] (.seq (.cU (rG 8 8) []) .ret))
def awl:aj:=(.keep [2] [(24,.id 24)] [] .skip)
def awm:aj:=(.keep [2,6] [(24,.id 24)] [] (.seq (.ai (rG 8 13)) (.cond (.tmp 94) (.seq (.cU (rG 8 14) []) .ret) awl)))
def awn:aj:=(.keep [2,6] [(24,.id 24)] [] (.seq (.ai (rG 8 11)) (.cond (.tmp 81) (.seq (.cU (rG 8 12) []) .ret) awm)))
def awo:aj:=(.keep [2,6] [(24,.id 24)] [] (.seq (.ai (rG 8 9)) (.cond (.tmp 67) (.seq (.cU (rG 8 10) []) .ret) awn)))
def Je:aj:=(.keep [2] [(24,.id 24)] [] (.seq (.ai (rG 8 15)) (.seq (.seq (.ai (rG 8 16)) (.cond (.tmp 114) (.ai (rG 8 17)) .skip)) (.seq (.ai (rG 8 18)) .ret))))
def awp:aj:=(.keep [1,2] [(24,.id 24)] [] (.seq (.ai (rG 8 3)) (.seq (.block 0 (.seq (.ai (rG 8 4)) (.cond (.tmp 50) (.seq (.ai (rG 8 5)) (.seq (.seq (.ai (rG 8 6)) (.cond (.tmp 59) (.ai (rG 8 7)) .skip)) awk)) awo))) Je)))
def aBV:aj:=(.seq (.ai (rG 8 0)) (.seq (.seq (.ai (rG 8 1)) (.cond (.tmp 47) (.seq (.ai (rG 8 2)) .ret) .skip)) awp))
def c8:aK:=⟨118,aBV,[(.tmp 4),(.tmp 5)],some ([4,5],[],[]),false⟩
theorem ayS:aW Go.Proofs.Tryz.prog cB 8=some (aO c8):=by kernel_rfl
def ayT:aj:=(.seq (.ai (rG 46 0)) (.seq (.ai (rG 46 1)) .ret))
def c46:aK:=⟨14,ayT,[(.tmp 4)],some ([4],[],[]),false⟩
theorem arX:aW Go.Proofs.Tryz.prog cB 46=some (aO c46):=by kernel_rfl
def ayU:aj:=(.block 1 (.seq (.ai (rG 11 6)) (.seq (.ai (rG 11 7)) (.block 2 (.seq (.ai (rG 11 8)) (.cond (.tmp 23) (.ai (rG 11 9)) (.seq (.ai (rG 11 10)) (.cond (.tmp 28) (.ai (rG 11 11)) (.ai (rG 11 12))))))))))
def akc:aj:=(.keep [0,5,10,11] [(48,.id 48)] [] (.seq ayU (.ai (rG 11 13))))
def akd:aj:=(.keep [0,5,10,11,12] [(48,.id 48)] [] (.seq (.cond (.tmp 12) .skip (.keep [5] [(48,.id 48)] [] (.exit 0))) akc))
def ake:aj:=(.keep [0,5,10,11] [(48,.id 48)] [] (.seq (.ai (rG 11 5)) akd))
def akf:aj:=(.keep [0] [] [] (.seq (.ai (rG 11 3)) (.seq (.seq (.ai (rG 11 4)) (.block 0 (.loop ake))) (.seq (.ai (rG 11 14)) .ret))))
def ayV:aj:=(.seq (.ai (rG 11 0)) (.seq (.seq (.ai (rG 11 1)) (.cond (.tmp 7) (.seq (.ai (rG 11 2)) .ret) .skip)) akf))
def c11:aK:=⟨36,ayV,[(.tmp 4)],some ([4],[],[]),false⟩
theorem arY:aW Go.Proofs.Tryz.prog cB 11=some (aO c11):=by kernel_rfl
def ayW:aj:=(.seq (.ai (rG 10 0)) (.seq (.ai (rG 10 1)) .ret))
def c10:aK:=⟨5,ayW,[(.tmp 2)],some ([2],[],[]),false⟩
theorem arZ:aW Go.Proofs.Tryz.prog cB 10=some (aO c10):=by kernel_rfl
def ayX:aj:=(.cU (rG 44 0) [(3,6),(3,7),(3,8)])
def c44:aK:=⟨16,ayX,[],some ([],[(0,.id 0)],[]),false⟩
theorem ar1:aW Go.Proofs.Tryz.prog cB 44=some (aO c44):=by kernel_rfl
def ayY:aj:=(.seq (.ai (rG 76 0)) (.seq (.ai (rG 76 1)) .ret))
def c76:aK:=⟨14,ayY,[(.tmp 4)],some ([4],[],[]),false⟩
theorem ar3:aW Go.Proofs.Tryz.prog cB 76=some (aO c76):=by kernel_rfl
def ZQ:aj:=(.keep [1,8,9] [(72,.id 72)] [] (.ai (rG 106 15)))
def ZT:aj:=(.ai (rG 106 16))
def ZU:aj:=(.keep [1,8] [(72,.id 72)] [] (.seq (.ai (rG 106 9)) (.seq (.block 2 (.seq (.ai (rG 106 10)) (.cond (.tmp 42) (.seq (.ai (rG 106 11)) (.ai (rG 106 12))) (.seq (.ai (rG 106 13)) (.cond (.tmp 54) (.seq (.ai (rG 106 14)) .ret) ZQ))))) ZT)))
def ZV:aj:=(.keep [1,8] [(72,.id 72)] [] (.block 1 (.seq (.seq (.ai (rG 106 7)) (.cond (.tmp 25) (.seq (.cU (rG 106 8) []) (.exit 1)) .skip)) ZU)))
def ZW:aj:=(.keep [1,8] [(72,.id 72)] [] (.seq (.seq (.ai (rG 106 6)) (.cond (.tmp 22) .skip (.keep [8] [(72,.id 72)] [] (.exit 0)))) ZV))
def ZY:aj:=(.keep [0,1] [] [] (.seq (.ai (rG 106 4)) (.seq (.seq (.ai (rG 106 5)) (.block 0 (.loop ZW))) (.seq (.ai (rG 106 17)) .ret))))
def ar4:aj:=(.seq (.ai (rG 106 0)) (.seq (.seq (.ai (rG 106 1)) (.seq (.ai (rG 106 2)) (.cond (.tmp 16) (.seq (.ai (rG 106 3)) .ret) .skip))) ZY))
def Jf:aK:=⟨70,ar4,[(.tmp 4),(.tmp 5),(.tmp 6)],some ([4,5,6],[(593,(.slot 5 none))],[]),false⟩
theorem akg:aW Go.Proofs.Tryz.prog cB 106=some (aO Jf):=by kernel_rfl
def ar5:aj:=(.seq (.ai (rG 179 0)) (.cU (rG 179 1) [(4,6)]))
def ZZ:aK:=⟨14,ar5,[],some ([1000001],[(0,.id 0),(1,.id 1)],[]),false⟩
theorem akh:aW Go.Proofs.Tryz.prog cB 179=some (aO ZZ):=by kernel_rfl
def ar6:aj:=(.ai (rG 180 0))
def Z1:aK:=⟨9,ar6,[],some ([1000001],[(0,.id 0),(1,.id 1)],[]),false⟩
theorem aki:aW Go.Proofs.Tryz.prog cB 180=some (aO Z1):=by kernel_rfl
def ar7:aj:=(.seq (.ai (rG 181 0)) (.ai (rG 181 1)))
def Z2:aK:=⟨10,ar7,[],some ([1000001],[(0,.id 0),(1,.id 1)],[]),false⟩
theorem akj:aW Go.Proofs.Tryz.prog cB 181=some (aO Z2):=by kernel_rfl
def ar8:aj:=(.cond (.tmp 50) (.seq (.ai (rG 178 6)) (.ai (rG 178 7))) (.seq (.ai (rG 178 8)) (.cond (.tmp 63) .skip (.seq (.cU (rG 178 9) [(4,6),(4,7)]) (.seq (.ai (rG 178 10)) (.cond (.tmp 16) (.ai (rG 178 11)) .skip))))))
def ar9:aj:=(.seq (.ai (rG 178 0)) (.cond (.tmp 22) (.ai (rG 178 1)) (.seq (.ai (rG 178 2)) (.cond (.tmp 34) (.ai (rG 178 3)) (.seq (.ai (rG 178 4)) (.cond (.tmp 43) .skip (.seq (.ai (rG 178 5)) ar8)))))))
def ar_:aj:=(.block 0 ar9)
def Z3:aK:=⟨70,ar_,[],some ([1000001],[(0,.id 0),(1,.id 1)],[]),false⟩
theorem akk:aW Go.Proofs.Tryz.prog cB 178=some (aO Z3):=by kernel_rfl
def Z4:aj:=(.keep [0,5,1000001] [(0,.id 0),(1,.id 1)] [] .skip)
def asa:aj:=(.cond (.tmp 8) (.ai (rG 182 3)) (.seq (.ai (rG 182 4)) (.cond (.tmp 11) Z4 (.seq (.ai (rG 182 5)) (.cond (.tmp 18) (.seq (.ai (rG 182 6)) (.seq (.ai (rG 182 7)) .ret)) (.seq (.ai (rG 182 8)) .ret))))))
def Pk:aj:=(.keep [0,5,1000001] [(0,.id 0),(1,.id 1)] [] (.seq (.seq (.ai (rG 182 9)) (.cond (.tmp 30) (.ai (rG 182 10)) .skip)) (.seq (.ai (rG 182 11)) (.seq (.ai (rG 182 12)) .ret))))
def asb:aj:=(.seq (.ai (rG 182 0)) (.seq (.ai (rG 182 1)) (.seq (.block 0 (.seq (.ai (rG 182 2)) asa)) Pk)))
def Z5:aK:=⟨37,asb,[(.tmp 4)],some ([4,1000001],[(0,.id 0),(1,.id 1)],[]),false⟩
theorem akl:aW Go.Proofs.Tryz.prog cB 182=some (aO Z5):=by kernel_rfl
def asc:aj:=(.seq (.ai (rG 206 0)) (.cond (.tmp 10) (.ai (rG 206 1)) .skip))
def Z6:aK:=⟨23,asc,[],some ([1000001],[(0,.id 0),(1,.id 1)],[]),false⟩
theorem akm:aW Go.Proofs.Tryz.prog cB 206=some (aO Z6):=by kernel_rfl
def ase:aj:=(.seq (.ai (rG 207 0)) (.seq (.seq (.ai (rG 207 1)) (.cond (.tmp 10) (.ai (rG 207 2)) .skip)) (.seq (.ai (rG 207 3)) (.ai (rG 207 4)))))
def Z7:aK:=⟨17,ase,[],some ([1000001],[(0,.id 0),(1,.id 1)],[]),false⟩
theorem akn:aW Go.Proofs.Tryz.prog cB 207=some (aO Z7):=by kernel_rfl
def asf:aj:=(.seq (.ai (rG 183 5)) (.cond (.tmp 34) (.ai (rG 183 6)) (.seq (.ai (rG 183 7)) (.cond (.tmp 41) (.ai (rG 183 8)) (.seq (.ai (rG 183 9)) (.cond (.tmp 48) (.ai (rG 183 10)) (.ai (rG 183 11))))))))
def asg:aj:=(.block 0 (.seq (.ai (rG 183 0)) (.cond (.tmp 8) (.seq (.ai (rG 183 1)) (.ai (rG 183 2))) (.seq (.ai (rG 183 3)) (.cond (.tmp 18) (.ai (rG 183 4)) asf)))))
def Z8:aK:=⟨57,asg,[],some ([1000001],[(0,.id 0),(1,.id 1)],[]),false⟩
theorem ako:aW Go.Proofs.Tryz.prog cB 183=some (aO Z8):=by kernel_rfl
def ash:aj:=(.ai (rG 209 0))
def Z9:aK:=⟨6,ash,[],some ([1000001],[(0,.id 0),(1,.id 1)],[]),false⟩
theorem akp:aW Go.Proofs.Tryz.prog cB 209=some (aO Z9):=by kernel_rfl
def Z_:aj:=(.keep [0,1,4,1000001] [(0,.id 0),(1,.id 1)] [] (.cU (rG 184 8) []))
def asi:aj:=(.seq (.ai (rG 184 11)) (.cond (.tmp 69) (.seq (.seq (.ai (rG 184 12)) (.cond (.tmp 78) (.ai (rG 184 13)) .skip)) (.ai (rG 184 14))) (.seq (.ai (rG 184 15)) (.cond (.tmp 95) (.ai (rG 184 16)) (.ai (rG 184 17))))))
def asj:aj:=(.cond (.tmp 19) (.seq (.ai (rG 184 4)) (.ai (rG 184 5))) (.seq (.ai (rG 184 6)) (.cond (.tmp 29) (.seq (.ai (rG 184 7)) Z_) (.seq (.ai (rG 184 9)) (.cond (.tmp 56) (.ai (rG 184 10)) asi)))))
def asl:aj:=(.block 0 (.seq (.ai (rG 184 0)) (.cond (.tmp 8) (.seq (.ai (rG 184 1)) (.cond (.tmp 16) (.ai (rG 184 2)) .skip)) (.seq (.ai (rG 184 3)) asj))))
def aaa:aK:=⟨111,asl,[],some ([1000001],[(0,.id 0),(1,.id 1)],[]),false⟩
theorem akq:aW Go.Proofs.Tryz.prog cB 184=some (aO aaa):=by kernel_rfl
def asm:aj:=(.seq (.ai (rG 144 7)) (.cond (.tmp 26) (.seq (.ai (rG 144 8)) (.seq (.seq (.ai (rG 144 9)) (.cond (.tmp 33) (.ai (rG 144 10)) .skip)) (.seq (.ai (rG 144 11)) (.seq (.ai (rG 144 12)) .ret)))) .skip))
def aab:aj:=(.keep [0,1,22,1000001] [(0,.id 0),(1,.id 1)] [] (.cond (.tmp 22) (.seq asm (.ai (rG 144 13))) .skip))
def aac:aj:=(.keep [0,1,15,16,1000001] [(0,.id 0),(1,.id 1)] [] (.cond (.tmp 16) (.seq (.ai (rG 144 4)) .ret) (.seq (.seq (.ai (rG 144 5)) (.cond (.tmp 22) .skip (.ai (rG 144 6)))) aab)))
def asn:aj:=(.seq (.ai (rG 144 15)) (.cond (.tmp 54) (.ai (rG 144 16)) (.seq (.ai (rG 144 17)) (.cond (.tmp 65) (.ai (rG 144 18)) (.seq (.ai (rG 144 19)) (.cond (.tmp 70) (.ai (rG 144 20)) (.ai (rG 144 21))))))))
def Hg:aj:=(.keep [0,1,1000001] [(0,.id 0),(1,.id 1)] [] (.block 1 (.seq (.ai (rG 144 14)) (.cond (.tmp 50) .skip asn))))
def aad:aj:=(.keep [0,1,1000001] [(0,.id 0),(1,.id 1)] [] (.seq (.seq (.ai (rG 144 1)) (.block 0 (.seq (.seq (.ai (rG 144 2)) (.cond (.tmp 16) .skip (.ai (rG 144 3)))) aac))) Hg))
def aso:aj:=(.seq (.seq (.ai (rG 144 0)) (.cond (.tmp 10) .ret .skip)) aad)
def aae:aK:=⟨80,aso,[],some ([1000001],[(0,.id 0),(1,.id 1)],[]),false⟩
theorem akr:aW Go.Proofs.Tryz.prog cB 144=some (aO aae):=by kernel_rfl
def aaf:aj:=(.keep [4,8,20,21,22] [(40,.id 40),(160,.id 160),(337,.id 337)] [] (.seq (.block 1 (.seq (.ai (rG 107 7)) (.ai (rG 107 8)))) (.ai (rG 107 9))))
def aag:aj:=(.keep [4,8,20,21,22,23] [(40,.id 40),(160,.id 160),(337,.id 337)] [] (.seq (.cond (.tmp 23) .skip (.keep [4,8] [(40,.id 40),(160,.id 160),(337,.id 337)] [] (.exit 0))) aaf))
def aah:aj:=(.keep [4,8,20,21,22] [(40,.id 40),(160,.id 160),(337,(.cell 160 5))] [.cell 160 5 337 248 6] (.seq (.ai (rG 107 6)) aag))
def aai:aj:=(.keep [4,8] [(40,.id 40),(160,.id 160),(337,.id 337)] [] (.seq (.cU (rG 107 10) [(7,8)]) .ret))
def aaj:aj:=(.keep [1,2,4] [(24,.id 24),(40,.id 40)] [] (.seq (.ai (rG 107 4)) (.seq (.seq (.ai (rG 107 5)) (.block 0 (.loop aah))) aai)))
def asq:aj:=(.seq (.ai (rG 107 0)) (.seq (.seq (.ai (rG 107 1)) (.seq (.ai (rG 107 2)) (.cond (.tmp 14) (.seq (.ai (rG 107 3)) .ret) .skip))) aaj))
def SE:aK:=⟨38,asq,[(.cell 4 .true 5),(.tmp 5),(.tmp 6)],some ([4,5,6],[(40,.id 40),(338,(.slot 5 none))],[]),false⟩
theorem aks:aW Go.Proofs.Tryz.prog cB 107=some (aO SE):=by kernel_rfl
def asr:aj:=(.seq (.ai (rG 186 0)) (.seq (.ai (rG 186 1)) .ret))
def aak:aK:=⟨6,asr,[(.tmp 2)],some ([2],[],[]),false⟩
theorem akt:aW Go.Proofs.Tryz.prog cB 186=some (aO aak):=by kernel_rfl
def aal:aj:=(.keep [0,1,7,8] [] [] (.seq (.block 1 (.seq (.ai (rG 210 3)) (.seq (.ai (rG 210 4)) (.cond (.tmp 16) (.seq (.ai (rG 210 5)) .ret) .skip)))) (.ai (rG 210 6))))
def aam:aj:=(.keep [0,1,7,8,9] [] [] (.seq (.cond (.tmp 9) .skip (.keep [] [] [] (.exit 0))) aal))
def aan:aj:=(.keep [0,1,7,8] [] [] (.seq (.ai (rG 210 2)) aam))
def ass:aj:=(.seq (.ai (rG 210 0)) (.seq (.seq (.ai (rG 210 1)) (.block 0 (.loop aan))) (.seq (.ai (rG 210 7)) .ret)))
def Jg:aK:=⟨19,ass,[(.tmp 4)],some ([4],[],[]),false⟩
theorem aku:aW Go.Proofs.Tryz.prog cB 210=some (aO Jg):=by kernel_rfl
def ast:aj:=(.seq (.ai (rG 185 0)) (.seq (.ai (rG 185 1)) .ret))
def aao:aK:=⟨9,ast,[(.tmp 4)],some ([4],[],[]),false⟩
theorem akv:aW Go.Proofs.Tryz.prog cB 185=some (aO aao):=by kernel_rfl
def aap:aj:=(.keep [5,6,7] [] [] (.seq (.block 1 (.seq (.ai (rG 145 3)) (.seq (.ai (rG 145 4)) (.cond (.tmp 25) (.seq (.ai (rG 145 5)) .ret) .skip)))) (.ai (rG 145 6))))
def aaq:aj:=(.keep [5,6,7,8] [] [] (.seq (.cond (.tmp 8) .skip (.keep [] [] [] (.exit 0))) aap))
def aar:aj:=(.keep [5,6,7] [] [] (.seq (.ai (rG 145 2)) aaq))
def asu:aj:=(.seq (.ai (rG 145 0)) (.seq (.seq (.ai (rG 145 1)) (.block 0 (.loop aar))) (.seq (.ai (rG 145 7)) .ret)))
def Jh:aK:=⟨27,asu,[(.tmp 2)],some ([2],[],[]),false⟩
theorem akw:aW Go.Proofs.Tryz.prog cB 145=some (aO Jh):=by kernel_rfl
def aas:aj:=(.keep [0,1,5] [(48,.id 48)] [] (.seq (.ai (rG 236 8)) (.cond (.tmp 22) (.seq (.ai (rG 236 9)) .ret) .skip)))
def asv:aj:=(.seq (.ai (rG 236 2)) (.cond (.tmp 7) (.seq (.ai (rG 236 3)) .ret) (.seq (.ai (rG 236 4)) (.cond (.tmp 12) (.seq (.ai (rG 236 5)) .ret) (.seq (.ai (rG 236 6)) (.cond (.tmp 15) (.seq (.ai (rG 236 7)) .ret) aas))))))
def aat:aj:=(.seq (.ai (rG 236 10)) .ret)
def asw:aj:=(.seq (.ai (rG 236 0)) (.seq (.ai (rG 236 1)) (.seq (.block 0 asv) aat)))
def aau:aK:=⟨39,asw,[(.tmp 4)],some ([4],[],[]),false⟩
theorem akx:aW Go.Proofs.Tryz.prog cB 236=some (aO aau):=by kernel_rfl
def asx:aj:=(.seq (.ai (rG 211 0)) (.seq (.seq (.ai (rG 211 1)) (.cond (.tmp 8) (.seq (.ai (rG 211 2)) .ret) .skip)) (.seq (.ai (rG 211 3)) .ret)))
def aav:aK:=⟨12,asx,[(.tmp 4),(.tmp 5)],some ([4,5],[],[]),false⟩
theorem aky:aW Go.Proofs.Tryz.prog cB 211=some (aO aav):=by kernel_rfl
def asy:aj:=(.seq (.ai (rG 237 0)) (.seq (.ai (rG 237 1)) .ret))
def aaw:aK:=⟨12,asy,[(.tmp 6)],some ([6],[],[]),false⟩
theorem akz:aW Go.Proofs.Tryz.prog cB 237=some (aO aaw):=by kernel_rfl
def asz:aj:=(.seq (.ai (rG 212 0)) (.ai (rG 212 1)))
def aax:aK:=⟨21,asz,[],some ([2000000],[(0,.id 0),(1,.id 1),(2,.id 2),(3,.id 3)],[]),false⟩
theorem akA:aW Go.Proofs.Tryz.prog cB 212=some (aO aax):=by kernel_rfl
def asA:aj:=(.seq (.ai (rG 214 0)) (.seq (.ai (rG 214 1)) .ret))
def aay:aK:=⟨13,asA,[(.tmp 4)],some ([4],[],[]),false⟩
theorem akB:aW Go.Proofs.Tryz.prog cB 214=some (aO aay):=by kernel_rfl
def asC:aj:=(.seq (.ai (rG 238 0)) (.seq (.ai (rG 238 1)) .ret))
def SG:aK:=⟨9,asC,[(.tmp 4)],some ([4],[(72,.id 72)],[]),false⟩
theorem akC:aW Go.Proofs.Tryz.prog cB 238=some (aO SG):=by kernel_rfl
def asD:aj:=(.seq (.ai (rG 216 0)) (.seq (.ai (rG 216 1)) .ret))
def aaz:aK:=⟨10,asD,[(.cell 2 .true 3)],some ([2],[(24,.id 24)],[]),false⟩
theorem akD:aW Go.Proofs.Tryz.prog cB 216=some (aO aaz):=by kernel_rfl
def asE:aj:=(.seq (.ai (rG 161 0)) (.seq (.ai (rG 161 1)) .ret))
def aaA:aK:=⟨5,asE,[(.cell 2 .true 4)],some ([2],[(24,.id 24)],[]),false⟩
theorem akE:aW Go.Proofs.Tryz.prog cB 161=some (aO aaA):=by kernel_rfl
def asF:aj:=(.seq (.ai (rG 235 4)) (.seq (.ai (rG 235 5)) (.seq (.ai (rG 235 6)) (.seq (.ai (rG 235 7)) (.seq (.ai (rG 235 8)) (.seq (.ai (rG 235 9)) (.seq (.ai (rG 235 10)) (.seq (.ai (rG 235 11)) .ret))))))))
def asG:aj:=(.seq (.ai (rG 235 0)) (.seq (.ai (rG 235 1)) (.seq (.ai (rG 235 2)) (.seq (.ai (rG 235 3)) asF))))
def aaB:aK:=⟨51,asG,[(.tmp 4),(.tmp 5)],some ([4,5],[],[]),false⟩
theorem akF:aW Go.Proofs.Tryz.prog cB 235=some (aO aaB):=by kernel_rfl
def aaC:aj:=(.keep [0,1] [] [] (.seq (.ai (rG 205 3)) (.seq (.ai (rG 205 4)) .ret)))
def asH:aj:=(.seq (.ai (rG 205 0)) (.seq (.cond (.const (.bool .false)) (.seq (.ai (rG 205 1)) (.seq (.ai (rG 205 2)) .ret)) .skip) aaC))
def aaD:aK:=⟨30,asH,[(.tmp 4),(.tmp 5)],some ([4,5],[],[]),false⟩
theorem akG:aW Go.Proofs.Tryz.prog cB 205=some (aO aaD):=by kernel_rfl
def aaE:aj:=(.keep [7,8] [(248,.id 248)] [] (.block 1 (.cU (rG 177 9) [])))
def aaF:aj:=(.keep [7,8] [(248,.id 248)] [] (.seq (.seq (.ai (rG 177 8)) (.cond (.tmp 37) .skip (.keep [7] [(248,.id 248)] [] (.exit 0)))) aaE))
def aaG:aj:=(.keep [0,6] [] [] (.seq (.ai (rG 177 6)) (.seq (.ai (rG 177 7)) (.seq (.block 0 (.loop aaF)) (.seq (.ai (rG 177 10)) .ret)))))
def aaH:aj:=(.keep [0,1] [] [] (.seq (.ai (rG 177 3)) (.seq (.seq (.ai (rG 177 4)) (.cond (.tmp 26) (.ai (rG 177 5)) .skip)) aaG)))
def asI:aj:=(.seq (.ai (rG 177 0)) (.seq (.seq (.ai (rG 177 1)) (.cond (.tmp 10) (.ai (rG 177 2)) .skip)) aaH))
def SH:aK:=⟨48,asI,[(.tmp 4)],some ([4],[(248,.id 248)],[]),false⟩
theorem akH:aW Go.Proofs.Tryz.prog cB 177=some (aO SH):=by kernel_rfl
def asJ:aj:=(.seq (.ai (rG 138 0)) (.seq (.ai (rG 138 1)) .ret))
def c138:aK:=⟨17,asJ,[(.cell 6 .true 3)],some ([6],[(56,.id 56),(128,.id 128)],[]),false⟩
theorem akI:aW Go.Proofs.Tryz.prog cB 138=some (aO c138):=by kernel_rfl
def asK:aj:=(.seq (.ai (rG 251 0)) (.seq (.ai (rG 251 1)) .ret))
def SI:aK:=⟨8,asK,[(.tmp 2)],some ([2],[(56,.id 56)],[]),false⟩
theorem akJ:aW Go.Proofs.Tryz.prog cB 251=some (aO SI):=by kernel_rfl
def aaI:aj:=(.keep [0,1,2,7,11,12] [(1,.id 1),(3,.id 3),(2,.id 2),(0,.id 0),(64,.id 64)] [] (.ai (rG 250 8)))
def aaJ:aj:=(.ai (rG 250 9))
def aaK:aj:=(.keep [0,1,2,7,11,12] [(1,.id 1),(3,.id 3),(2,.id 2),(0,.id 0),(64,.id 64)] [] (.seq (.block 1 (.seq (.ai (rG 250 4)) (.seq (.ai (rG 250 5)) (.seq (.ai (rG 250 6)) (.cond (.tmp 25) (.ai (rG 250 7)) aaI))))) aaJ))
def aaL:aj:=(.keep [0,1,2,7,11,12,13] [(1,.id 1),(3,.id 3),(2,.id 2),(0,.id 0),(64,.id 64)] [] (.seq (.cond (.tmp 13) .skip (.keep [7] [(1,.id 1),(3,.id 3),(2,.id 2),(0,.id 0),(64,.id 64)] [] (.exit 0))) aaK))
def aaM:aj:=(.keep [0,1,2,7,11,12] [(1,.id 1),(3,.id 3),(2,.id 2),(0,.id 0),(64,.id 64)] [] (.seq (.ai (rG 250 3)) aaL))
def asM:aj:=(.seq (.ai (rG 250 0)) (.seq (.ai (rG 250 1)) (.seq (.seq (.ai (rG 250 2)) (.block 0 (.loop aaM))) (.seq (.ai (rG 250 10)) .ret))))
def Ng:aK:=⟨40,asM,[(.tmp 6)],some ([6,2000000],[(1,.id 1),(3,.id 3),(2,.id 2),(0,.id 0),(64,.id 64)],[]),false⟩
theorem akK:aW Go.Proofs.Tryz.prog cB 250=some (aO Ng):=by kernel_rfl
def aaN:aj:=(.keep [1,2,3,5,9,10,11] [(0,.id 0),(48,.id 48),(80,.id 80),(88,.id 88)] [] (.seq (.block 1 (.ai (rG 239 4))) (.ai (rG 239 5))))
def aaO:aj:=(.keep [1,2,3,5,9,10,11] [(0,.id 0),(48,.id 48),(80,.id 80),(88,.id 88)] [] (.seq (.seq (.ai (rG 239 3)) (.cond (.tmp 17) .skip (.keep [1,3,5,9,10] [(0,.id 0),(48,.id 48),(80,.id 80),(88,.id 88)] [] (.exit 0)))) aaN))
def aaP:aj:=(.keep [1,5,32,33,34] [(0,.id 0),(48,.id 48),(256,.id 256)] [] (.seq (.block 3 (.seq (.ai (rG 239 9)) (.ai (rG 239 10)))) (.ai (rG 239 11))))
def aaQ:aj:=(.keep [1,5,32,33,34,35] [(0,.id 0),(48,.id 48),(256,.id 256)] [] (.seq (.cond (.tmp 35) .skip (.keep [] [(0,.id 0)] [] (.exit 2))) aaP))
def aaR:aj:=(.keep [1,5,32,33,34] [(0,.id 0),(48,.id 48),(256,.id 256)] [] (.seq (.ai (rG 239 8)) aaQ))
def aaS:aj:=(.keep [1,3,5,9,10] [(0,.id 0),(48,.id 48),(80,.id 80),(88,.id 88)] [] (.seq (.ai (rG 239 6)) (.seq (.ai (rG 239 7)) (.block 2 (.loop aaR)))))
def asN:aj:=(.seq (.ai (rG 239 0)) (.seq (.ai (rG 239 1)) (.seq (.seq (.ai (rG 239 2)) (.block 0 (.loop aaO))) aaS)))
def aaT:aK:=⟨47,asN,[],some ([2000000],[(0,.id 0)],[]),false⟩
theorem akL:aW Go.Proofs.Tryz.prog cB 239=some (aO aaT):=by kernel_rfl
def aaU:aj:=(.keep [0,1000001,1000002,1000003] [(0,.id 0),(1,.id 1),(2,.id 2),(3,.id 3)] [] (.cU (rG 213 6) [(4,16),(9,16),(14,16)]))
def asO:aj:=(.cond (.tmp 6) (.seq (.seq (.ai (rG 213 2)) (.cond (.tmp 29) (.seq (.cU (rG 213 3) [(5,11),(5,13)]) (.seq (.ai (rG 213 4)) (.cond (.tmp 54) (.ai (rG 213 5)) .skip))) .skip)) aaU) (.seq (.cU (rG 213 7) []) (.cond (.tmp 83) (.ai (rG 213 8)) .skip)))
def asP:aj:=(.seq (.ai (rG 213 0)) (.block 0 (.seq (.cU (rG 213 1) []) asO)))
def aaV:aK:=⟨106,asP,[],some ([1000001,1000002,1000003],[(0,.id 0),(1,.id 1),(2,.id 2),(3,.id 3)],[]),false⟩
theorem akM:aW Go.Proofs.Tryz.prog cB 213=some (aO aaV):=by kernel_rfl
def asQ:aj:=(.seq (.ai (rG 241 0)) (.seq (.ai (rG 241 1)) .ret))
def aaW:aK:=⟨4,asQ,[(.cell 1 .true 4)],some ([1],[(16,.id 16)],[]),false⟩
theorem akN:aW Go.Proofs.Tryz.prog cB 241=some (aO aaW):=by kernel_rfl
def aaX:aj:=(.keep [0,1,2,7,11,12] [(64,.id 64)] [] (.ai (rG 240 8)))
def aaY:aj:=(.ai (rG 240 9))
def aaZ:aj:=(.keep [0,1,2,7,11,12] [(64,.id 64)] [] (.seq (.block 1 (.seq (.ai (rG 240 4)) (.seq (.ai (rG 240 5)) (.seq (.ai (rG 240 6)) (.cond (.tmp 25) (.ai (rG 240 7)) aaX))))) aaY))
def aa0:aj:=(.keep [0,1,2,7,11,12,13] [(64,.id 64)] [] (.seq (.cond (.tmp 13) .skip (.keep [7] [(64,.id 64)] [] (.exit 0))) aaZ))
def aa1:aj:=(.keep [0,1,2,7,11,12] [(64,.id 64)] [] (.seq (.ai (rG 240 3)) aa0))
def asR:aj:=(.seq (.ai (rG 240 0)) (.seq (.ai (rG 240 1)) (.seq (.seq (.ai (rG 240 2)) (.block 0 (.loop aa1))) (.seq (.ai (rG 240 10)) .ret))))
def SJ:aK:=⟨40,asR,[(.tmp 6)],some ([6],[(64,.id 64)],[]),false⟩
theorem akO:aW Go.Proofs.Tryz.prog cB 240=some (aO SJ):=by kernel_rfl
def aa2:aj:=(.keep [0,2,7,8] [(0,.id 0),(48,.id 48)] [] (.seq (.block 1 (.seq (.ai (rG 116 3)) (.seq (.ai (rG 116 4)) (.cond (.tmp 13) (.ai (rG 116 5)) .skip)))) (.ai (rG 116 6))))
def aa3:aj:=(.keep [0,2,7,8,9] [(0,.id 0),(48,.id 48)] [] (.seq (.cond (.tmp 9) .skip (.keep [] [(0,.id 0)] [] (.exit 0))) aa2))
def aa4:aj:=(.keep [0,2,7,8] [(0,.id 0),(48,.id 48)] [] (.seq (.ai (rG 116 2)) aa3))
def asS:aj:=(.seq (.ai (rG 116 0)) (.seq (.ai (rG 116 1)) (.block 0 (.loop aa4))))
def aa5:aK:=⟨24,asS,[],some ([2000000],[(0,.id 0)],[]),false⟩
theorem akP:aW Go.Proofs.Tryz.prog cB 116=some (aO aa5):=by kernel_rfl
def asT:aj:=(.seq (.ai (rG 215 0)) (.seq (.ai (rG 215 1)) (.seq (.cU (rG 215 2) [(3,10)]) (.ai (rG 215 3)))))
def aa6:aK:=⟨30,asT,[],some ([2000000],[(0,.id 0)],[]),false⟩
theorem akQ:aW Go.Proofs.Tryz.prog cB 215=some (aO aa6):=by kernel_rfl
def asU:aj:=(.seq (.ai (rG 217 0)) (.seq (.ai (rG 217 1)) (.seq (.ai (rG 217 2)) (.seq (.seq (.ai (rG 217 3)) (.cond (.tmp 22) (.ai (rG 217 4)) .skip)) (.ai (rG 217 5))))))
def aa7:aK:=⟨31,asU,[],some ([2000000],[(0,.id 0)],[]),false⟩
theorem akR:aW Go.Proofs.Tryz.prog cB 217=some (aO aa7):=by kernel_rfl
def aa8:aj:=(.keep [0,1,1000001,1000002,1000003] [(0,.id 0),(1,.id 1),(2,.id 2),(3,.id 3)] [] .skip)
def aa9:aj:=(.keep [0,1,4,5,1000001,1000002,1000003] [(0,.id 0),(1,.id 1),(2,.id 2),(3,.id 3)] [] .skip)
def aa_:aj:=(.keep [0,1,4,5,1000001,1000002,1000003] [(0,.id 0),(1,.id 1),(2,.id 2),(3,.id 3)] [] (.seq (.cU (rG 187 13) []) (.seq (.ai (rG 187 14)) (.seq (.ai (rG 187 15)) (.cond (.tmp 142) (.ai (rG 187 16)) .skip)))))
def Pn:aj:=(.keep [0,1,4,5,1000001,1000002,1000003] [(0,.id 0),(1,.id 1),(2,.id 2),(3,.id 3)] [] (.seq (.seq (.ai (rG 187 11)) (.cond (.tmp 78) (.cU (rG 187 12) [(4,23),(9,23),(14,23),(20,23)]) .skip)) aa_))
def aba:aj:=(.keep [0,1,4,5,1000001,1000002,1000003] [(0,.id 0),(1,.id 1),(2,.id 2),(3,.id 3)] [] (.seq (.seq (.ai (rG 187 7)) (.cond (.tmp 69) (.seq (.seq (.ai (rG 187 8)) (.cond (.tmp 72) .ret .skip)) (.seq (.ai (rG 187 9)) (.ai (rG 187 10)))) aa9)) Pn))
def abb:aj:=(.keep [0,1,4,5,1000001,1000002,1000003] [(0,.id 0),(1,.id 1),(2,.id 2),(3,.id 3)] [] (.seq (.seq (.ai (rG 187 4)) (.cond (.tmp 54) (.seq (.ai (rG 187 5)) (.ai (rG 187 6))) .skip)) aba))
def Po:aj:=(.keep [0,1,1000001,1000002,1000003] [(0,.id 0),(1,.id 1),(2,.id 2),(3,.id 3)] [] (.seq (.cU (rG 187 2) [(1,7)]) (.seq (.seq (.ai (rG 187 3)) (.cond (.tmp 49) .ret .skip)) abb)))
def asV:aj:=(.seq (.seq (.ai (rG 187 0)) (.cond (.tmp 11) (.cU (rG 187 1) []) aa8)) Po)
def abc:aK:=⟨154,asV,[],some ([1000001,1000002,1000003],[(0,.id 0),(1,.id 1),(2,.id 2),(3,.id 3)],[]),false⟩
theorem akS:aW Go.Proofs.Tryz.prog cB 187=some (aO abc):=by kernel_rfl
def asW:aj:=(.seq (.ai (rG 242 0)) (.seq (.ai (rG 242 1)) .ret))
def abd:aK:=⟨15,asW,[(.tmp 4)],some ([4],[],[]),false⟩
theorem akT:aW Go.Proofs.Tryz.prog cB 242=some (aO abd):=by kernel_rfl
def abe:aj:=(.keep [1,2,3,4,10] [(40,.id 40)] [] (.seq (.ai (rG 218 8)) (.cond (.tmp 46) (.seq (.ai (rG 218 9)) (.seq (.ai (rG 218 10)) (.cond (.tmp 50) (.seq (.ai (rG 218 11)) .ret) .skip))) .skip)))
def abf:aj:=(.keep [1,2,3,4,10] [(40,.id 40)] [] (.block 1 (.seq (.seq (.ai (rG 218 5)) (.seq (.ai (rG 218 6)) (.cond (.tmp 41) (.seq (.ai (rG 218 7)) .ret) .skip))) abe)))
def abg:aj:=(.keep [1,2,3,4,10] [(40,.id 40)] [] (.seq (.seq (.ai (rG 218 4)) (.cond (.tmp 36) .skip (.keep [1] [] [] (.exit 0)))) abf))
def abh:aj:=(.keep [1,2,3,4] [(40,.id 40)] [] (.seq (.seq (.ai (rG 218 3)) (.block 0 (.loop abg))) (.seq (.ai (rG 218 12)) .ret)))
def asX:aj:=(.seq (.ai (rG 218 0)) (.seq (.seq (.ai (rG 218 1)) (.cond (.tmp 33) (.seq (.ai (rG 218 2)) .ret) .skip)) abh))
def Ji:aK:=⟨53,asX,[(.tmp 8),(.tmp 9)],some ([8,9],[],[]),false⟩
theorem akU:aW Go.Proofs.Tryz.prog cB 218=some (aO Ji):=by kernel_rfl
def abj:aj:=(.keep [0,6,42,1000001,1000002,1000003] [(0,.id 0),(1,.id 1),(2,.id 2),(3,.id 3)] [] (.cond (.tmp 42) (.seq (.ai (rG 188 9)) (.seq (.ai (rG 188 10)) (.cond (.tmp 49) (.ai (rG 188 11)) .skip))) (.seq (.ai (rG 188 12)) (.cond (.tmp 52) (.ai (rG 188 13)) (.seq (.ai (rG 188 14)) (.cond (.tmp 56) (.ai (rG 188 15)) (.seq (.ai (rG 188 16)) (.cond (.tmp 62) (.ai (rG 188 17)) .skip))))))))
def asY:aj:=(.seq (.ai (rG 188 3)) (.cond (.tmp 17) (.seq (.cU (rG 188 4) []) (.ai (rG 188 5))) (.seq (.seq (.ai (rG 188 6)) (.cond (.tmp 42) .skip (.seq (.ai (rG 188 7)) (.cond (.tmp 42) .skip (.ai (rG 188 8)))))) abj)))
def asZ:aj:=(.seq (.ai (rG 188 0)) (.block 0 (.seq (.ai (rG 188 1)) (.cond (.tmp 7) (.ai (rG 188 2)) asY))))
def abk:aK:=⟨68,asZ,[],some ([1000001,1000002,1000003],[(0,.id 0),(1,.id 1),(2,.id 2),(3,.id 3)],[]),false⟩
theorem akV:aW Go.Proofs.Tryz.prog cB 188=some (aO abk):=by kernel_rfl
def as0:aj:=(.seq (.ai (rG 219 0)) (.block 0 (.seq (.cU (rG 219 1) []) (.cond (.tmp 6) (.cU (rG 219 2) [(4,16),(9,16),(14,16)]) (.seq (.ai (rG 219 3)) (.cond (.tmp 36) (.ai (rG 219 4)) .skip))))))
def abl:aK:=⟨52,as0,[],some ([1000001,1000002,1000003],[(0,.id 0),(1,.id 1),(2,.id 2),(3,.id 3)],[]),false⟩
theorem akW:aW Go.Proofs.Tryz.prog cB 219=some (aO abl):=by kernel_rfl
def abm:aj:=(.keep [1,2,3,6] [(32,.id 32),(56,.id 56)] [] (.seq (.cU (rG 220 3) []) (.seq (.seq (.ai (rG 220 4)) (.cond (.tmp 26) (.cU (rG 220 5) []) .skip)) (.seq (.ai (rG 220 6)) .ret))))
def as1:aj:=(.seq (.ai (rG 220 0)) (.seq (.seq (.ai (rG 220 1)) (.cond (.tmp 13) (.seq (.ai (rG 220 2)) .ret) .skip)) abm))
def abn:aK:=⟨39,as1,[(.cell 6 .true 4),(.tmp 7)],some ([6,7],[(56,.id 56)],[]),false⟩
theorem akX:aW Go.Proofs.Tryz.prog cB 220=some (aO abn):=by kernel_rfl
def as2:aj:=(.cU (rG 221 0) [(5,17),(10,17),(15,17),(17,22),(17,27)])
def abo:aK:=⟨34,as2,[],some ([2000000],[(0,.id 0),(1,.id 1),(2,.id 2),(3,.id 3)],[]),false⟩
theorem akY:aW Go.Proofs.Tryz.prog cB 221=some (aO abo):=by kernel_rfl
def as3:aj:=(.seq (.ai (rG 223 0)) (.seq (.ai (rG 223 1)) (.cond (.tmp 16) (.ai (rG 223 2)) .skip)))
def abp:aK:=⟨27,as3,[],some ([2000000],[(0,.id 0),(1,.id 1),(2,.id 2),(3,.id 3)],[]),false⟩
theorem akZ:aW Go.Proofs.Tryz.prog cB 223=some (aO abp):=by kernel_rfl
def as4:aj:=(.seq (.ai (rG 222 0)) (.seq (.cU (rG 222 1) []) (.seq (.cU (rG 222 2) [(6,12),(8,12),(8,16)]) (.seq (.ai (rG 222 3)) (.ai (rG 222 4))))))
def abq:aK:=⟨48,as4,[],some ([2000000],[(0,.id 0),(1,.id 1),(2,.id 2),(3,.id 3)],[]),false⟩
theorem ak0:aW Go.Proofs.Tryz.prog cB 222=some (aO abq):=by kernel_rfl
def abr:aj:=(.keep [0,1,5,6] [(48,.id 48),(56,.id 56)] [.cell 56 2 0 0 1] (.seq (.seq (.ai (rG 101 4)) (.seq (.ai (rG 101 5)) (.cond (.tmp 20) (.seq (.ai (rG 101 6)) .ret) .skip))) (.seq (.ai (rG 101 7)) .ret)))
def as5:aj:=(.seq (.ai (rG 101 0)) (.seq (.seq (.ai (rG 101 1)) (.seq (.ai (rG 101 2)) (.cond (.tmp 14) (.seq (.ai (rG 101 3)) .ret) .skip))) abr))
def SK:aK:=⟨27,as5,[(.cell 6 .true 3),(.tmp 7)],some ([6,7],[(56,.id 56),(216,(.cell 56 2))],[.cell 56 2 216 87 4]),false⟩
theorem ak1:aW Go.Proofs.Tryz.prog cB 101=some (aO SK):=by kernel_rfl
def abt:aj:=(.keep [0,1,2] [(8,.id 8),(16,.id 16)] [] (.seq (.block 1 (.cU (rG 102 4) [])) (.ai (rG 102 5))))
def abu:aj:=(.keep [0,1,2] [(8,.id 8),(16,.id 16)] [] (.seq (.seq (.ai (rG 102 3)) (.cond (.tmp 4) .skip (.keep [0,1] [(8,.id 8),(16,.id 16)] [] (.exit 0)))) abt))
def as6:aj:=(.seq (.ai (rG 102 0)) (.seq (.ai (rG 102 1)) (.seq (.seq (.ai (rG 102 2)) (.block 0 (.loop abu))) (.seq (.ai (rG 102 6)) .ret))))
def abv:aK:=⟨19,as6,[(.cell 0 .true 4)],some ([0],[(8,.id 8)],[]),false⟩
theorem ak2:aW Go.Proofs.Tryz.prog cB 102=some (aO abv):=by kernel_rfl
def ak3:aj:=(.keep [1,4,6] [(40,.id 40),(56,.id 56),(112,.id 112)] [.cell 40 2 0 0 1,.cell 40 30 0 0 1,.cell 40 32 0 0 1] (.seq (.ai (rG 68 4)) (.seq (.cU (rG 68 5) [(0,2),(0,4),(2,5),(4,5),(2,6),(4,6)]) .ret)))
def ayZ:aj:=(.seq (.ai (rG 68 0)) (.seq (.ai (rG 68 1)) (.seq (.seq (.ai (rG 68 2)) (.cond (.tmp 17) (.seq (.ai (rG 68 3)) .ret) .skip)) ak3)))
def c68:aK:=⟨30,ayZ,[(.cell 4 .true 33),(.tmp 5)],some ([4,5],[(40,.id 40),(273,(.cell 40 2)),(192,(.cell 40 30))],[.cell 40 2 273 87 4,.cell 40 30 192 87 4]),false⟩
theorem as7:aW Go.Proofs.Tryz.prog cB 68=some (aO c68):=by kernel_rfl
def as8:aj:=(.cU (rG 224 0) [])
def abw:aK:=⟨21,as8,[],some ([1000001,1000002,1000003],[(0,.id 0),(1,(.cell 0 2)),(2,(.cell 0 30)),(3,.id 3)],[]),false⟩
theorem ak5:aW Go.Proofs.Tryz.prog cB 224=some (aO abw):=by kernel_rfl
def abx:aj:=(.keep [0,1,4,47,1000001,1000002,1000003] [(0,.id 0),(1,.id 1),(2,.id 2),(3,.id 3)] [] (.cond (.tmp 47) (.ai (rG 189 16)) (.seq (.ai (rG 189 17)) (.cond (.tmp 54) (.ai (rG 189 18)) .skip))))
def as9:aj:=(.seq (.ai (rG 189 10)) (.cond (.tmp 39) (.ai (rG 189 11)) (.seq (.ai (rG 189 12)) (.cond (.tmp 43) (.ai (rG 189 13)) (.seq (.seq (.ai (rG 189 14)) (.cond (.tmp 47) .skip (.ai (rG 189 15)))) abx)))))
def as_:aj:=(.seq (.ai (rG 189 3)) (.cond (.tmp 9) (.seq (.ai (rG 189 4)) (.ai (rG 189 5))) (.seq (.ai (rG 189 6)) (.cond (.tmp 15) (.ai (rG 189 7)) (.seq (.ai (rG 189 8)) (.cond (.tmp 19) (.cU (rG 189 9) []) as9))))))
def ata:aj:=(.seq (.ai (rG 189 0)) (.block 0 (.seq (.ai (rG 189 1)) (.cond (.tmp 5) (.ai (rG 189 2)) as_))))
def aby:aK:=⟨58,ata,[],some ([1000001,1000002,1000003],[(0,.id 0),(1,.id 1),(2,.id 2),(3,.id 3)],[.cell 0 32 3 111 1]),false⟩
theorem ak6:aW Go.Proofs.Tryz.prog cB 189=some (aO aby):=by kernel_rfl
def atb:aj:=(.seq (.ai (rG 226 0)) (.seq (.seq (.ai (rG 226 1)) (.cond (.tmp 21) (.seq (.ai (rG 226 2)) .ret) .skip)) (.seq (.ai (rG 226 3)) .ret)))
def abz:aK:=⟨27,atb,[(.tmp 6)],some ([6],[],[]),false⟩
theorem ak7:aW Go.Proofs.Tryz.prog cB 226=some (aO abz):=by kernel_rfl
def atc:aj:=(.seq (.ai (rG 225 0)) (.seq (.ai (rG 225 1)) .ret))
def abA:aK:=⟨9,atc,[(.tmp 4)],some ([4],[],[]),false⟩
theorem ak8:aW Go.Proofs.Tryz.prog cB 225=some (aO abA):=by kernel_rfl
def abB:aj:=(.keep [0,1,4,5] [(0,.id 0),(1,.id 1),(2,.id 2),(3,.id 3)] [] .skip)
def abC:aj:=(.keep [0,1,4,5] [(0,.id 0),(1,.id 1),(2,.id 2),(3,.id 3)] [] .skip)
def Pp:aj:=(.keep [0,1,4,5] [(0,.id 0),(1,.id 1),(2,.id 2),(3,.id 3)] [] (.seq (.ai (rG 243 5)) (.ai (rG 243 6))))
def Pq:aj:=(.keep [0,1,4,5] [(0,.id 0),(1,.id 1),(2,.id 2),(3,.id 3)] [] (.seq (.seq (.cU (rG 243 3) []) (.cond (.tmp 47) (.ai (rG 243 4)) abC)) Pp))
def atd:aj:=(.seq (.cU (rG 243 0) []) (.seq (.seq (.cU (rG 243 1) []) (.cond (.tmp 27) (.ai (rG 243 2)) abB)) Pq))
def abD:aK:=⟨72,atd,[],some ([2000000],[(0,.id 0),(1,.id 1),(2,.id 2),(3,.id 3)],[]),false⟩
theorem ak9:aW Go.Proofs.Tryz.prog cB 243=some (aO abD):=by kernel_rfl
def ate:aj:=(.seq (.seq (.ai (rG 244 0)) (.cond (.tmp 7) (.cU (rG 244 1) []) (.ai (rG 244 2)))) (.ai (rG 244 3)))
def abE:aK:=⟨47,ate,[],some ([2000000],[(0,.id 0),(1,.id 1),(2,.id 2),(3,.id 3)],[]),false⟩
theorem ak_:aW Go.Proofs.Tryz.prog cB 244=some (aO abE):=by kernel_rfl
def abF:aj:=(.keep [1,2,3,8] [(32,.id 32)] [] (.seq (.ai (rG 245 8)) (.cond (.tmp 32) (.seq (.ai (rG 245 9)) (.seq (.ai (rG 245 10)) (.cond (.tmp 36) (.seq (.ai (rG 245 11)) .ret) .skip))) .skip)))
def abG:aj:=(.keep [1,2,3,8] [(32,.id 32)] [] (.block 1 (.seq (.seq (.ai (rG 245 5)) (.seq (.ai (rG 245 6)) (.cond (.tmp 29) (.seq (.ai (rG 245 7)) .ret) .skip))) abF)))
def abH:aj:=(.keep [1,2,3,8] [(32,.id 32)] [] (.seq (.seq (.ai (rG 245 4)) (.cond (.tmp 25) .skip (.keep [1] [] [] (.exit 0)))) abG))
def abI:aj:=(.keep [1,2,3] [(32,.id 32)] [] (.seq (.seq (.ai (rG 245 3)) (.block 0 (.loop abH))) (.seq (.ai (rG 245 12)) .ret)))
def atf:aj:=(.seq (.ai (rG 245 0)) (.seq (.seq (.ai (rG 245 1)) (.cond (.tmp 22) (.seq (.ai (rG 245 2)) .ret) .skip)) abI))
def Jj:aK:=⟨39,atf,[(.tmp 6),(.tmp 7)],some ([6,7],[],[]),false⟩
theorem ala:aW Go.Proofs.Tryz.prog cB 245=some (aO Jj):=by kernel_rfl
def atg:aj:=(.cond (.tmp 116) (.seq (.cU (rG 227 28) []) (.ai (rG 227 29))) (.seq (.ai (rG 227 30)) (.cond (.tmp 136) (.ai (rG 227 31)) (.seq (.ai (rG 227 32)) (.cond (.tmp 140) (.ai (rG 227 33)) (.seq (.ai (rG 227 34)) .ret))))))
def abJ:aj:=(.keep [0,2,4,12,79] [(0,.id 0),(1,.id 1),(2,.id 2),(3,.id 3),(40,.id 40)] [] (.cond (.tmp 79) (.ai (rG 227 23)) (.seq (.ai (rG 227 24)) (.cond (.tmp 90) (.seq (.cU (rG 227 25) []) (.ai (rG 227 26))) (.seq (.ai (rG 227 27)) atg)))))
def abK:aj:=(.keep [0,2,4,12,61] [(0,.id 0),(1,.id 1),(2,.id 2),(3,.id 3),(40,.id 40)] [] (.cond (.tmp 61) (.ai (rG 227 18)) (.seq (.ai (rG 227 19)) (.cond (.tmp 68) (.ai (rG 227 20)) (.seq (.seq (.ai (rG 227 21)) (.cond (.tmp 79) .skip (.ai (rG 227 22)))) abJ)))))
def ath:aj:=(.cond (.tmp 46) (.seq (.ai (rG 227 11)) (.ai (rG 227 12))) (.seq (.ai (rG 227 13)) (.cond (.tmp 54) (.seq (.ai (rG 227 14)) (.ai (rG 227 15))) (.seq (.seq (.ai (rG 227 16)) (.cond (.tmp 61) .skip (.ai (rG 227 17)))) abK))))
def ati:aj:=(.seq (.ai (rG 227 4)) (.cond (.tmp 18) (.ai (rG 227 5)) (.seq (.ai (rG 227 6)) (.cond (.tmp 24) (.ai (rG 227 7)) (.seq (.ai (rG 227 8)) (.cond (.tmp 35) (.ai (rG 227 9)) (.seq (.ai (rG 227 10)) ath)))))))
def Pt:aj:=(.seq (.ai (rG 227 35)) .ret)
def atj:aj:=(.seq (.ai (rG 227 0)) (.seq (.seq (.ai (rG 227 1)) (.block 0 (.seq (.ai (rG 227 2)) (.cond (.tmp 13) (.ai (rG 227 3)) ati)))) Pt))
def abL:aK:=⟨144,atj,[(.tmp 6)],some ([6,2000000],[(0,.id 0),(1,.id 1),(2,.id 2),(3,.id 3)],[]),false⟩
theorem alb:aW Go.Proofs.Tryz.prog cB 227=some (aO abL):=by kernel_rfl
def abM:aj:=(.keep [0,2,9,1000001,1000002,1000003] [(0,.id 0),(1,.id 1),(2,.id 2),(3,.id 3)] [] (.seq (.ai (rG 228 7)) (.cU (rG 228 8) [(4,18),(9,18),(14,18)])))
def atk:aj:=(.loop (.seq (.ai (rG 228 14)) (.seq (.cond (.tmp 68) .skip (.exit 1)) (.seq (.block 2 (.seq (.ai (rG 228 15)) (.seq (.ai (rG 228 16)) (.cond (.tmp 97) (.ai (rG 228 17)) .skip)))) (.ai (rG 228 18))))))
def atl:aj:=(.seq (.seq (.ai (rG 228 25)) (.cond (.tmp 135) (.ai (rG 228 26)) .skip)) (.seq (.cU (rG 228 27) []) (.cond (.tmp 154) (.seq (.cU (rG 228 28) [(4,17),(9,17),(14,17)]) (.ai (rG 228 29))) .skip)))
def abN:aj:=(.keep [0,2,1000001,1000002,1000003] [(0,.id 0),(1,.id 1),(2,.id 2),(3,.id 3)] [] (.seq (.ai (rG 228 34)) (.cU (rG 228 35) [(4,17),(9,17),(14,17)])))
def abO:aj:=(.keep [0,1,2,176,1000001,1000002,1000003] [(0,.id 0),(1,.id 1),(2,.id 2),(3,.id 3)] [] (.cond (.tmp 176) (.seq (.seq (.ai (rG 228 32)) (.cond (.tmp 180) (.ai (rG 228 33)) .skip)) abN) (.seq (.ai (rG 228 36)) .ret)))
def abP:aj:=(.keep [0,1,2,17,131,1000001,1000002,1000003] [(0,.id 0),(1,.id 1),(2,.id 2),(3,.id 3)] [] (.cond (.tmp 131) atl (.seq (.seq (.ai (rG 228 30)) (.cond (.tmp 176) .skip (.ai (rG 228 31)))) abO)))
def atm:aj:=(.seq (.ai (rG 228 19)) (.cond (.tmp 103) (.ai (rG 228 20)) (.seq (.ai (rG 228 21)) (.cond (.tmp 108) (.cU (rG 228 22) []) (.seq (.seq (.ai (rG 228 23)) (.cond (.tmp 131) .skip (.ai (rG 228 24)))) abP)))))
def alc:aj:=(.cond (.tmp 49) (.seq (.seq (.ai (rG 228 10)) (.cond (.tmp 52) (.ai (rG 228 11)) .skip)) (.seq (.seq (.ai (rG 228 12)) (.cond (.tmp 60) (.exit 0) .skip)) (.seq (.ai (rG 228 13)) (.block 1 atk)))) atm)
def abQ:aj:=(.keep [0,1,2,3,9,17,18,1000001,1000002,1000003] [(0,.id 0),(1,.id 1),(2,.id 2),(3,.id 3)] [] (.cond (.tmp 18) (.seq (.seq (.ai (rG 228 5)) (.cond (.tmp 22) (.ai (rG 228 6)) .skip)) abM) (.seq (.ai (rG 228 9)) alc)))
def zf:aj:=(.seq (.ai (rG 228 37)) .ret)
def atn:aj:=(.seq (.ai (rG 228 0)) (.seq (.ai (rG 228 1)) (.seq (.seq (.ai (rG 228 2)) (.block 0 (.seq (.seq (.ai (rG 228 3)) (.cond (.tmp 18) .skip (.ai (rG 228 4)))) abQ))) zf)))
def abR:aK:=⟨206,atn,[(.tmp 8)],some ([8,1000001,1000002,1000003],[(0,.id 0),(1,.id 1),(2,.id 2),(3,.id 3)],[]),false⟩
theorem ald:aW Go.Proofs.Tryz.prog cB 228=some (aO abR):=by kernel_rfl
def ato:aj:=(.block 3 (.seq (.ai (rG 229 12)) (.seq (.ai (rG 229 13)) (.block 4 (.seq (.ai (rG 229 14)) (.cond (.tmp 56) (.ai (rG 229 15)) (.seq (.ai (rG 229 16)) (.cond (.tmp 63) (.ai (rG 229 17)) .skip))))))))
def atp:aj:=(.cond (.tmp 91) (.seq (.ai (rG 229 24)) (.seq (.seq (.ai (rG 229 25)) (.cond (.tmp 107) (.ai (rG 229 26)) .skip)) (.seq (.ai (rG 229 27)) (.cond (.tmp 116) (.seq (.ai (rG 229 28)) (.ai (rG 229 29))) .skip)))) (.seq (.ai (rG 229 30)) (.cond (.tmp 130) (.ai (rG 229 31)) (.seq (.ai (rG 229 32)) (.cond (.tmp 135) (.seq (.ai (rG 229 33)) (.cond (.tmp 138) (.ai (rG 229 34)) .skip)) .skip)))))
def abS:aj:=(.keep [0,2,3,5,14,45,1000001,1000002,1000003] [(0,.id 0),(1,.id 1),(2,.id 2),(3,.id 3),(48,.id 48)] [] (.cond (.tmp 45) (.seq (.ai (rG 229 10)) (.block 2 (.loop (.seq (.ai (rG 229 11)) (.seq (.cond (.tmp 52) .skip (.exit 2)) (.seq ato (.ai (rG 229 18)))))))) (.seq (.ai (rG 229 19)) (.cond (.tmp 71) (.seq (.cU (rG 229 20) [(4,11),(6,11),(7,11)]) (.seq (.ai (rG 229 21)) (.cond (.tmp 85) (.ai (rG 229 22)) .skip))) (.seq (.ai (rG 229 23)) atp)))))
def atq:aj:=(.cond (.tmp 15) (.seq (.ai (rG 229 3)) (.block 1 (.seq (.ai (rG 229 4)) (.cond (.tmp 18) (.cU (rG 229 5) []) (.seq (.ai (rG 229 6)) (.cond (.tmp 38) (.ai (rG 229 7)) .skip)))))) (.seq (.seq (.ai (rG 229 8)) (.cond (.tmp 45) .skip (.ai (rG 229 9)))) abS))
def atr:aj:=(.seq (.ai (rG 229 0)) (.seq (.ai (rG 229 1)) (.block 0 (.seq (.ai (rG 229 2)) atq))))
def abT:aK:=⟨146,atr,[],some ([1000001,1000002,1000003],[(0,.id 0),(1,.id 1),(2,.id 2),(3,.id 3)],[]),false⟩
theorem ale:aW Go.Proofs.Tryz.prog cB 229=some (aO abT):=by kernel_rfl
def att:aj:=(.cond (.tmp 57) (.seq (.ai (rG 191 8)) (.block 1 (.loop (.seq (.ai (rG 191 9)) (.seq (.cond (.tmp 75) .skip (.exit 1)) (.seq (.block 2 (.seq (.ai (rG 191 10)) (.ai (rG 191 11)))) (.ai (rG 191 12)))))))) .skip)
def atu:aj:=(.seq (.ai (rG 191 2)) (.cond (.tmp 14) (.seq (.ai (rG 191 3)) (.cond (.tmp 31) (.ai (rG 191 4)) .skip)) (.seq (.ai (rG 191 5)) (.cond (.tmp 37) (.ai (rG 191 6)) (.seq (.ai (rG 191 7)) att)))))
def atv:aj:=(.seq (.ai (rG 191 0)) (.seq (.cU (rG 191 1) [(2,4)]) (.block 0 atu)))
def abU:aK:=⟨85,atv,[],some ([1000001,1000002,1000003],[(0,.id 0),(1,.id 1),(2,.id 2),(3,.id 3)],[]),false⟩
theorem alf:aW Go.Proofs.Tryz.prog cB 191=some (aO abU):=by kernel_rfl
def atw:aj:=(.cond (.tmp 33) (.ai (rG 146 8)) (.seq (.ai (rG 146 9)) (.cond (.tmp 43) (.seq (.ai (rG 146 10)) (.cond (.tmp 54) (.ai (rG 146 11)) .skip)) (.seq (.ai (rG 146 12)) (.cond (.tmp 62) (.ai (rG 146 13)) .skip)))))
def atx:aj:=(.seq (.ai (rG 146 1)) (.cond (.tmp 4) (.ai (rG 146 2)) (.seq (.ai (rG 146 3)) (.cond (.tmp 12) (.ai (rG 146 4)) (.seq (.ai (rG 146 5)) (.cond (.tmp 20) (.ai (rG 146 6)) (.seq (.ai (rG 146 7)) atw)))))))
def aty:aj:=(.seq (.ai (rG 146 0)) (.block 0 atx))
def abV:aK:=⟨74,aty,[],some ([1000001,1000002,1000003],[(0,.id 0),(1,.id 1),(2,.id 2),(3,.id 3)],[]),false⟩
theorem alg:aW Go.Proofs.Tryz.prog cB 146=some (aO abV):=by kernel_rfl
def abW:aj:=(.keep [4,9,30,31,32] [(40,.id 40),(240,.id 240),(224,.id 224),(225,.id 225),(226,.id 226)] [] (.seq (.block 1 (.seq (.ai (rG 108 10)) (.ai (rG 108 11)))) (.ai (rG 108 12))))
def abX:aj:=(.keep [4,9,30,31,32,33] [(40,.id 40),(240,.id 240),(224,.id 224),(225,.id 225),(226,.id 226)] [] (.seq (.cond (.tmp 33) .skip (.keep [4,9] [(40,.id 40),(240,.id 240),(224,.id 224),(225,.id 225),(226,.id 226)] [] (.exit 0))) abW))
def abY:aj:=(.keep [4,9,30,31,32] [(40,.id 40),(240,.id 240),(224,.id 224),(225,.id 225),(226,.id 226)] [] (.seq (.ai (rG 108 9)) abX))
def abZ:aj:=(.keep [4,9] [(40,.id 40),(240,.id 240),(224,.id 224),(225,.id 225),(226,.id 226)] [] (.seq (.cU (rG 108 13) [(7,8)]) .ret))
def ab0:aj:=(.keep [1,2,4] [(24,.id 24),(40,.id 40)] [] (.seq (.ai (rG 108 7)) (.seq (.seq (.ai (rG 108 8)) (.block 0 (.loop abY))) abZ)))
def ab1:aj:=(.keep [1,2,4] [(24,.id 24),(40,.id 40)] [.cell 40 2 0 0 1,.cell 40 30 0 0 1,.cell 40 32 0 0 1] (.seq (.seq (.ai (rG 108 4)) (.seq (.ai (rG 108 5)) (.cond (.tmp 22) (.seq (.ai (rG 108 6)) .ret) .skip))) ab0))
def atz:aj:=(.seq (.ai (rG 108 0)) (.seq (.seq (.ai (rG 108 1)) (.seq (.ai (rG 108 2)) (.cond (.tmp 15) (.seq (.ai (rG 108 3)) .ret) .skip))) ab1))
def SL:aK:=⟨48,atz,[(.cell 4 .true 33),(.tmp 5),(.tmp 6)],some ([4,5,6],[(40,.id 40),(420,(.cell 40 2)),(421,(.cell 40 30)),(422,(.cell 40 32))],[]),false⟩
theorem alh:aW Go.Proofs.Tryz.prog cB 108=some (aO SL):=by kernel_rfl
def ab2:aj:=(.keep [2,4,8] [(24,.id 24),(40,.id 40)] [.cell 40 2 0 0 1,.cell 40 30 0 0 1,.cell 40 32 0 0 1] (.seq (.ai (rG 114 2)) .ret))
def atA:aj:=(.seq (.ai (rG 114 0)) (.seq (.ai (rG 114 1)) ab2))
def SM:aK:=⟨23,atA,[(.cell 4 .true 33),(.tmp 5),(.tmp 6)],some ([4,5,6],[(40,.id 40),(160,.id 160),(161,.id 161),(162,.id 162)],[]),false⟩
theorem ali:aW Go.Proofs.Tryz.prog cB 114=some (aO SM):=by kernel_rfl
def alj:aj:=(.keep [0,5] [(0,.id 0)] [] (.ai (rG 77 1)))
def ay0:aj:=(.seq (.ai (rG 77 0)) alj)
def WA:aK:=⟨29,ay0,[],some ([],[(0,.id 0)],[]),false⟩
theorem atB:aW Go.Proofs.Tryz.prog cB 77=some (aO WA):=by kernel_rfl
def ay1:aj:=(.seq (.ai (rG 42 8)) (.seq (.ai (rG 42 9)) (.block 0 (.loop (.seq (.ai (rG 42 10)) (.seq (.cond (.tmp 61) .skip (.exit 0)) (.seq (.block 1 (.seq (.ai (rG 42 11)) (.ai (rG 42 12)))) (.ai (rG 42 13)))))))))
def ay2:aj:=(.seq (.ai (rG 42 4)) (.cond (.tmp 26) (.seq (.cU (rG 42 5) [(4,22),(9,22),(14,22),(16,22)]) (.seq (.seq (.ai (rG 42 6)) (.cond (.tmp 50) (.seq (.ai (rG 42 7)) .ret) .skip)) ay1)) (.ai (rG 42 14))))
def alk:aj:=(.keep [0,7] [(0,.id 0)] [] (.seq (.seq (.ai (rG 42 15)) (.cond (.tmp 74) (.ai (rG 42 16)) .skip)) (.seq (.ai (rG 42 17)) .ret)))
def alm:aj:=(.keep [0,1] [(0,.id 0)] [] (.seq (.ai (rG 42 3)) (.seq ay2 alk)))
def ay3:aj:=(.seq (.ai (rG 42 0)) (.seq (.seq (.ai (rG 42 1)) (.cond (.tmp 15) (.seq (.ai (rG 42 2)) .ret) .skip)) alm))
def c42:aK:=⟨78,ay3,[(.tmp 6)],some ([6],[(0,.id 0)],[]),false⟩
theorem atD:aW Go.Proofs.Tryz.prog cB 42=some (aO c42):=by kernel_rfl
def awq:aj:=(.keep [1,2,7,21] [(24,.id 24)] [] (.cond (.tmp 21) (.seq (.ai (rG 9 4)) .ret) (.seq (.ai (rG 9 5)) (.cond (.tmp 71) (.seq (.ai (rG 9 6)) .ret) (.seq (.ai (rG 9 7)) (.cond (.tmp 75) (.seq (.ai (rG 9 8)) .ret) .skip))))))
def awr:aj:=(.keep [2,8,9] [(24,.id 24)] [] (.seq (.cU (rG 9 18) [(1,5),(1,11),(7,11)]) .ret))
def aws:aj:=(.keep [2,8] [(24,.id 24)] [] (.seq (.ai (rG 9 15)) (.seq (.seq (.ai (rG 9 16)) (.cond (.tmp 117) (.ai (rG 9 17)) .skip)) awr)))
def awt:aj:=(.keep [2,7,8] [(24,.id 24)] [] (.seq (.ai (rG 9 12)) (.seq (.seq (.ai (rG 9 13)) (.cond (.tmp 102) (.seq (.ai (rG 9 14)) .ret) .skip)) aws)))
def aln:aj:=(.keep [2,7] [(24,.id 24)] [] (.seq (.ai (rG 9 9)) (.seq (.seq (.ai (rG 9 10)) (.cond (.tmp 95) (.ai (rG 9 11)) .skip)) awt)))
def awu:aj:=(.keep [1,2,6,7] [(24,.id 24)] [] (.seq (.block 0 (.seq (.ai (rG 9 3)) awq)) aln))
def awv:aj:=(.keep [1,2,6] [(24,.id 24)] [] (.seq (.ai (rG 9 2)) awu))
def aBW:aj:=(.seq (.ai (rG 9 0)) (.seq (.ai (rG 9 1)) awv))
def c9:aK:=⟨135,aBW,[(.tmp 4),(.tmp 5)],some ([4,5],[],[]),false⟩
theorem ay4:aW Go.Proofs.Tryz.prog cB 9=some (aO c9):=by kernel_rfl
def ay5:aj:=(.seq (.seq (.ai (rG 15 16)) (.cond (.tmp 78) (.seq (.ai (rG 15 17)) .ret) .skip)) (.seq (.seq (.ai (rG 15 18)) (.seq (.ai (rG 15 19)) (.cond (.tmp 86) (.ai (rG 15 20)) .skip))) (.seq (.ai (rG 15 21)) .ret)))
def ay6:aj:=(.cond (.tmp 89) (.seq (.cU (rG 15 23) [(4,16),(6,16),(8,16),(10,16),(11,16)]) (.seq (.seq (.ai (rG 15 24)) (.cond (.tmp 108) (.ai (rG 15 25)) .skip)) (.seq (.ai (rG 15 26)) .ret))) .skip)
def ay7:aj:=(.cond (.tmp 47) (.seq (.ai (rG 15 10)) (.seq (.seq (.ai (rG 15 11)) (.cond (.tmp 57) (.ai (rG 15 12)) .skip)) (.seq (.ai (rG 15 13)) .ret))) (.seq (.ai (rG 15 14)) (.cond (.tmp 62) (.seq (.cU (rG 15 15) [(4,13),(6,13),(8,13),(9,13)]) ay5) (.seq (.ai (rG 15 22)) ay6))))
def ay8:aj:=(.cond (.tmp 21) (.seq (.ai (rG 15 4)) .ret) (.seq (.ai (rG 15 5)) (.cond (.tmp 27) (.seq (.ai (rG 15 6)) .ret) (.seq (.ai (rG 15 7)) (.cond (.tmp 37) (.seq (.ai (rG 15 8)) .ret) (.seq (.ai (rG 15 9)) ay7))))))
def ay9:aj:=(.seq (.ai (rG 15 0)) (.seq (.ai (rG 15 1)) (.seq (.seq (.ai (rG 15 2)) (.block 0 (.seq (.ai (rG 15 3)) ay8))) (.seq (.ai (rG 15 27)) .ret))))
def c15:aK:=⟨114,ay9,[(.tmp 4)],some ([4],[(0,.id 0)],[]),false⟩
theorem atE:aW Go.Proofs.Tryz.prog cB 15=some (aO c15):=by kernel_rfl
def aww:aj:=(.keep [4,8] [(40,.id 40),(168,.id 168)] [] (.seq (.cU (rG 5 8) [(7,8)]) .ret))
def awx:aj:=(.keep [2,3,4] [(24,.id 24),(32,.id 32),(40,.id 40)] [.cell 40 14 0 0 1,.cell 40 42 0 0 1,.cell 40 44 0 0 1,.cell 40 565 0 0 1,.cell 40 567 0 0 1] (.seq (.ai (rG 5 4)) (.seq (.seq (.ai (rG 5 5)) (.seq (.ai (rG 5 6)) (.cond (.tmp 25) (.seq (.ai (rG 5 7)) .ret) .skip))) aww)))
def aBX:aj:=(.seq (.ai (rG 5 0)) (.seq (.seq (.ai (rG 5 1)) (.seq (.ai (rG 5 2)) (.cond (.tmp 13) (.seq (.ai (rG 5 3)) .ret) .skip))) awx))
def c5:aK:=⟨37,aBX,[(.cell 4 .true 613),(.tmp 5),(.tmp 6)],some ([4,5,6],[(40,.id 40)],[]),false⟩
theorem ay_:aW Go.Proofs.Tryz.prog cB 5=some (aO c5):=by kernel_rfl
def awy:aj:=(.keep [9,12] [] [] (.seq (.ai (rG 3 5)) .ret))
def awz:aj:=(.keep [3,4,5,8,9,11,12,13] [(32,.id 32),(40,.id 40),(48,.id 48)] [] (.seq (.ai (rG 3 7)) (.seq (.ai (rG 3 8)) (.seq (.ai (rG 3 9)) .ret))))
def alo:aj:=(.keep [3,4,5,8,9,11,12] [(32,.id 32),(40,.id 40),(48,.id 48)] [] (.seq (.ai (rG 3 6)) awz))
def aBY:aj:=(.seq (.ai (rG 3 0)) (.seq (.ai (rG 3 1)) (.seq (.ai (rG 3 2)) (.seq (.ai (rG 3 3)) (.seq (.seq (.ai (rG 3 4)) (.cond (.tmp 41) awy .skip)) alo)))))
def c3:aK:=⟨96,aBY,[(.tmp 6)],some ([6],[],[]),false⟩
theorem aza:aW Go.Proofs.Tryz.prog cB 3=some (aO c3):=by kernel_rfl
def av:Nat→Option aK
 | 3=>some c3
 | 5=>some c5
 | 7=>some c7
 | 8=>some c8
 | 9=>some c9
 | 10=>some c10
 | 11=>some c11
 | 14=>some c14
 | 15=>some c15
 | 18=>some c18
 | 19=>some c19
 | 20=>some c20
 | 21=>some c21
 | 22=>some c22
 | 23=>some Pf
 | 24=>some Wt
 | 25=>some Wu
 | 26=>some c26
 | 27=>some c27
 | 28=>some c28
 | 29=>some c29
 | 30=>some c30
 | 38=>some c38
 | 39=>some Ph
 | 40=>some Pj
 | 42=>some c42
 | 44=>some c44
 | 46=>some c46
 | 50=>some c50
 | 51=>some c51
 | 52=>some c52
 | 53=>some c53
 | 54=>some Wh
 | 55=>some c55
 | 56=>some Wi
 | 57=>some SD
 | 58=>some c58
 | 59=>some c59
 | 60=>some c60
 | 61=>some Wj
 | 62=>some c62
 | 63=>some Wq
 | 64=>some c64
 | 65=>some c65
 | 68=>some c68
 | 69=>some c69
 | 70=>some Pg
 | 71=>some c71
 | 76=>some c76
 | 77=>some WA
 | 78=>some c78
 | 84=>some Wd
 | 85=>some c85
 | 88=>some c88
 | 89=>some c89
 | 90=>some c90
 | 91=>some c91
 | 92=>some c92
 | 93=>some Ws
 | 101=>some SK
 | 102=>some abv
 | 103=>some awg
 | 104=>some awb
 | 106=>some Jf
 | 107=>some SE
 | 108=>some SL
 | 114=>some SM
 | 115=>some ZP
 | 116=>some aa5
 | 126=>some Jb
 | 127=>some ZM
 | 138=>some c138
 | 139=>some awd
 | 140=>some awc
 | 141=>some awe
 | 142=>some awf
 | 144=>some aae
 | 145=>some Jh
 | 146=>some abV
 | 160=>some ZO
 | 161=>some aaA
 | 177=>some SH
 | 178=>some Z3
 | 179=>some ZZ
 | 180=>some Z1
 | 181=>some Z2
 | 182=>some Z5
 | 183=>some Z8
 | 184=>some aaa
 | 185=>some aao
 | 186=>some aak
 | 187=>some abc
 | 188=>some abk
 | 189=>some aby
 | 191=>some abU
 | 205=>some aaD
 | 206=>some Z6
 | 207=>some Z7
 | 209=>some Z9
 | 210=>some Jg
 | 211=>some aav
 | 212=>some aax
 | 213=>some aaV
 | 214=>some aay
 | 215=>some aa6
 | 216=>some aaz
 | 217=>some aa7
 | 218=>some Ji
 | 219=>some abl
 | 220=>some abn
 | 221=>some abo
 | 222=>some abq
 | 223=>some abp
 | 224=>some abw
 | 225=>some abA
 | 226=>some abz
 | 227=>some abL
 | 228=>some abR
 | 229=>some abT
 | 235=>some aaB
 | 236=>some aau
 | 237=>some aaw
 | 238=>some SG
 | 239=>some aaT
 | 240=>some SJ
 | 241=>some aaW
 | 242=>some abd
 | 243=>some abD
 | 244=>some abE
 | 245=>some Jj
 | 250=>some Ng
 | 251=>some SI
 | _=>none
theorem ad6: ∀f fc,av f=some fc→wQ Go.Proofs.Tryz.prog cB f fc:=by
 intro f fc h
 unfold av at h
 split at h
 ·cases h;exact aF aza
 ·cases h;exact aF ay_
 ·cases h;exact aF ayI
 ·cases h;exact aF ayS
 ·cases h;exact aF ay4
 ·cases h;exact aF arZ
 ·cases h;exact aF arY
 ·cases h;exact aF arF
 ·cases h;exact aF atE
 ·cases h;exact aF aqP
 ·cases h;exact aF aqw
 ·cases h;exact aF aqU
 ·cases h;exact aF aq0
 ·cases h;exact aF arn
 ·cases h;exact aF arq
 ·cases h;exact aF arw
 ·cases h;exact aF arx
 ·cases h;exact aF arz
 ·cases h;exact aF arH
 ·cases h;exact aF arK
 ·cases h;exact aF arM
 ·cases h;exact aF arV
 ·cases h;exact aF arC
 ·cases h;exact aF arD
 ·cases h;exact aF arE
 ·cases h;exact aF atD
 ·cases h;exact aF ar1
 ·cases h;exact aF arX
 ·cases h;exact aF aqM
 ·cases h;exact aF aqJ
 ·cases h;exact aF aqO
 ·cases h;exact aF aqT
 ·cases h;exact aF aqV
 ·cases h;exact aF aqX
 ·cases h;exact aF aqY
 ·cases h;exact aF ard
 ·cases h;exact aF arh
 ·cases h;exact aF aq7
 ·cases h;exact aF arj
 ·cases h;exact aF ark
 ·cases h;exact aF arp
 ·cases h;exact aF ars
 ·cases h;exact aF arv
 ·cases h;exact aF arT
 ·cases h;exact aF as7
 ·cases h;exact aF arB
 ·cases h;exact aF arA
 ·cases h;exact aF ZB
 ·cases h;exact aF ar3
 ·cases h;exact aF atB
 ·cases h;exact aF arR
 ·cases h;exact aF aqK
 ·cases h;exact aF aqR
 ·cases h;exact aF aq2
 ·cases h;exact aF aq3
 ·cases h;exact aF aq_
 ·cases h;exact aF arc
 ·cases h;exact aF aq5
 ·cases h;exact aF art
 ·cases h;exact aF ak1
 ·cases h;exact aF ak2
 ·cases h;exact aF aiM
 ·cases h;exact aF aiH
 ·cases h;exact aF akg
 ·cases h;exact aF aks
 ·cases h;exact aF alh
 ·cases h;exact aF ali
 ·cases h;exact aF aj5
 ·cases h;exact aF akP
 ·cases h;exact aF ajm
 ·cases h;exact aF ajp
 ·cases h;exact aF akI
 ·cases h;exact aF aiJ
 ·cases h;exact aF aiI
 ·cases h;exact aF aiK
 ·cases h;exact aF aiL
 ·cases h;exact aF akr
 ·cases h;exact aF akw
 ·cases h;exact aF alg
 ·cases h;exact aF aj4
 ·cases h;exact aF akE
 ·cases h;exact aF akH
 ·cases h;exact aF akk
 ·cases h;exact aF akh
 ·cases h;exact aF aki
 ·cases h;exact aF akj
 ·cases h;exact aF akl
 ·cases h;exact aF ako
 ·cases h;exact aF akq
 ·cases h;exact aF akv
 ·cases h;exact aF akt
 ·cases h;exact aF akS
 ·cases h;exact aF akV
 ·cases h;exact aF ak6
 ·cases h;exact aF alf
 ·cases h;exact aF akG
 ·cases h;exact aF akm
 ·cases h;exact aF akn
 ·cases h;exact aF akp
 ·cases h;exact aF aku
 ·cases h;exact aF aky
 ·cases h;exact aF akA
 ·cases h;exact aF akM
 ·cases h;exact aF akB
 ·cases h;exact aF akQ
 ·cases h;exact aF akD
 ·cases h;exact aF akR
 ·cases h;exact aF akU
 ·cases h;exact aF akW
 ·cases h;exact aF akX
 ·cases h;exact aF akY
 ·cases h;exact aF ak0
 ·cases h;exact aF akZ
 ·cases h;exact aF ak5
 ·cases h;exact aF ak8
 ·cases h;exact aF ak7
 ·cases h;exact aF alb
 ·cases h;exact aF ald
 ·cases h;exact aF ale
 ·cases h;exact aF akF
 ·cases h;exact aF akx
 ·cases h;exact aF akz
 ·cases h;exact aF akC
 ·cases h;exact aF akL
 ·cases h;exact aF akO
 ·cases h;exact aF akN
 ·cases h;exact aF akT
 ·cases h;exact aF ak9
 ·cases h;exact aF ak_
 ·cases h;exact aF ala
 ·cases h;exact aF akK
 ·cases h;exact aF akJ
 ·cases h
theorem atF:av 3=some c3:=rfl
theorem atG:av 5=some c5:=rfl
theorem atH:av 7=some c7:=rfl
theorem atI:av 8=some c8:=rfl
theorem atJ:av 9=some c9:=rfl
theorem alp:av 10=some c10:=rfl
theorem alq:av 11=some c11:=rfl
theorem alr:av 14=some c14:=rfl
theorem als:av 15=some c15:=rfl
theorem alu:av 18=some c18:=rfl
theorem alv:av 19=some c19:=rfl
theorem alw:av 20=some c20:=rfl
theorem alx:av 21=some c21:=rfl
theorem aly:av 22=some c22:=rfl
theorem alz:av 23=some Pf:=rfl
theorem alA:av 24=some Wt:=rfl
theorem alB:av 25=some Wu:=rfl
theorem alC:av 26=some c26:=rfl
theorem alD:av 27=some c27:=rfl
theorem alE:av 28=some c28:=rfl
theorem alF:av 29=some c29:=rfl
theorem alG:av 30=some c30:=rfl
theorem alH:av 38=some c38:=rfl
theorem alI:av 39=some Ph:=rfl
theorem alJ:av 40=some Pj:=rfl
theorem alK:av 42=some c42:=rfl
theorem alL:av 44=some c44:=rfl
theorem alM:av 46=some c46:=rfl
theorem alN:av 50=some c50:=rfl
theorem alO:av 51=some c51:=rfl
theorem alP:av 52=some c52:=rfl
theorem alQ:av 53=some c53:=rfl
theorem alR:av 54=some Wh:=rfl
theorem alS:av 55=some c55:=rfl
theorem alT:av 56=some Wi:=rfl
theorem alU:av 57=some SD:=rfl
theorem alV:av 58=some c58:=rfl
theorem alW:av 59=some c59:=rfl
theorem alX:av 60=some c60:=rfl
theorem alY:av 61=some Wj:=rfl
theorem alZ:av 62=some c62:=rfl
theorem al0:av 63=some Wq:=rfl
theorem al1:av 64=some c64:=rfl
theorem al2:av 65=some c65:=rfl
theorem al3:av 68=some c68:=rfl
theorem al4:av 69=some c69:=rfl
theorem al5:av 70=some Pg:=rfl
theorem al6:av 76=some c76:=rfl
theorem al7:av 77=some WA:=rfl
theorem al8:av 78=some c78:=rfl
theorem al9:av 84=some Wd:=rfl
theorem al_:av 85=some c85:=rfl
theorem ama:av 88=some c88:=rfl
theorem SN:av 89=some c89:=rfl
theorem amb:av 90=some c90:=rfl
theorem amc:av 91=some c91:=rfl
theorem amd:av 92=some c92:=rfl
theorem ame:av 93=some Ws:=rfl
theorem ad7:av 101=some SK:=rfl
theorem ad8:av 102=some abv:=rfl
theorem ad9:av 106=some Jf:=rfl
theorem ad_:av 107=some SE:=rfl
theorem aea:av 108=some SL:=rfl
theorem aeb:av 114=some SM:=rfl
theorem aec:av 115=some ZP:=rfl
theorem aed:av 116=some aa5:=rfl
theorem aee:av 126=some Jb:=rfl
theorem aef:av 127=some ZM:=rfl
theorem aeg:av 138=some c138:=rfl
theorem aeh:av 144=some aae:=rfl
theorem aei:av 145=some Jh:=rfl
theorem aej:av 146=some abV:=rfl
theorem aek:av 160=some ZO:=rfl
theorem ael:av 161=some aaA:=rfl
theorem aem:av 177=some SH:=rfl
theorem aen:av 178=some Z3:=rfl
theorem aeo:av 179=some ZZ:=rfl
theorem aep:av 180=some Z1:=rfl
theorem aeq:av 181=some Z2:=rfl
theorem aer:av 182=some Z5:=rfl
theorem aes:av 183=some Z8:=rfl
theorem aet:av 184=some aaa:=rfl
theorem aeu:av 185=some aao:=rfl
theorem aev:av 186=some aak:=rfl
theorem aew:av 187=some abc:=rfl
theorem aex:av 188=some abk:=rfl
theorem aey:av 189=some aby:=rfl
theorem aez:av 191=some abU:=rfl
theorem aeA:av 205=some aaD:=rfl
theorem aeB:av 206=some Z6:=rfl
theorem aeC:av 207=some Z7:=rfl
theorem aeD:av 209=some Z9:=rfl
theorem aeE:av 210=some Jg:=rfl
theorem aeF:av 211=some aav:=rfl
theorem aeG:av 212=some aax:=rfl
theorem aeH:av 213=some aaV:=rfl
theorem aeI:av 214=some aay:=rfl
theorem aeJ:av 215=some aa6:=rfl
theorem aeK:av 216=some aaz:=rfl
theorem aeL:av 217=some aa7:=rfl
theorem aeM:av 218=some Ji:=rfl
theorem aeN:av 219=some abl:=rfl
theorem aeO:av 220=some abn:=rfl
theorem aeP:av 221=some abo:=rfl
theorem aeQ:av 222=some abq:=rfl
theorem aeR:av 223=some abp:=rfl
theorem aeS:av 224=some abw:=rfl
theorem aeT:av 225=some abA:=rfl
theorem aeU:av 226=some abz:=rfl
theorem aeV:av 227=some abL:=rfl
theorem aeW:av 228=some abR:=rfl
theorem aeX:av 229=some abT:=rfl
theorem aeY:av 235=some aaB:=rfl
theorem aeZ:av 236=some aau:=rfl
theorem ae0:av 237=some aaw:=rfl
theorem ae1:av 238=some SG:=rfl
theorem ae2:av 239=some aaT:=rfl
theorem ae3:av 240=some SJ:=rfl
theorem ae4:av 241=some aaW:=rfl
theorem ae5:av 242=some abd:=rfl
theorem ae6:av 243=some abD:=rfl
theorem ae7:av 244=some abE:=rfl
theorem ae8:av 245=some Jj:=rfl
theorem ae9:av 250=some Ng:=rfl
theorem ae_:av 251=some SI:=rfl
end
noncomputable def libs:List (Nat×(List PV→Option PV)):= [(86,I1 rj),(87,I2 mz),(31,oiS dm),(32,BM eO),(99,osT iK),(208,M9 lD),(6,He oc)]
noncomputable abbrev aX:ek:=FP libs
abbrev ZX(d:Nat)(Q:PQ)(c:aj)(k:List It)(st:St):Prop:=ZR (bW av aX (d-1)) Q c k st
theorem lvG{d f n:Nat}{fc:aK}{args:List PV}{bs:List bH}{r:PV×List bH}(hd:n≤d)(h: ∀Q:PX→St→Prop,(∀e bl,aV fc bs.length r e bl→Q e bl)→ZX d Q fc.body [] (qV args bs))(hc:av f=some fc)(hz:fc.z=false:=by rfl)(hl:Nat.ble args.length fc.N=true:=by rfl)(hn:Nat.ble 1 n=true:=by rfl):bW av aX d f args bs=some r:=
 aql hc hz hl (Nat.le_trans (Nat.le_of_ble_eq_true hn) hd) h
theorem cL{d f n:Nat}{fc:aK}{args:List PV}{bs:List bH}{ρ:Type}{b:PV×List bH}{r:ρ}(F:ρ→PX→St→Prop)(hd:n≤d)(h: ∀Q:PQ,FQ (F r) Q→ZX d Q fc.body [] (qV args bs))(hc:av f=some fc)(hF: ∀e bl,F r e bl→aV fc bs.length b e bl:=by exact fun _ _ h=>h)(hz:fc.z=false:=by rfl)(hl:Nat.ble args.length fc.N=true:=by rfl)(hn:Nat.ble 1 n=true:=by rfl):bW av aX d f args bs=some b:=
 lvG hd (fun Q q=>h Q fun e bl a=>q e bl (hF e bl a)) hc hz hl hn
theorem l6{γ:ek}{Q:PQ}{k:List It}{st:St}{p:List PO}{i f:Nat}{R β:Type}{g:Option R}{K:R→Option β}{r:β}{a:ag}{l:List PV}{pr:R→ag}{rv:R→PV}(d:Nat)
  (hc: ∀z,g=some z→γ f l [eo a,aH a.af,aI a.af,aM a.af]=some (rv z,[eo (pr z),aH (pr z).af,aI (pr z).af,aM (pr z).af,.box []]))
  (hS:(g.bind fun z=>(bO (decide ((pr z).af.bn.length=a.af.bn.length))).bind fun _=>(bO (decide ((pr z).af.aT.Cells.length=a.af.aT.Cells.length))).bind fun _=>(bO (decide ((pr z).af.aG.Cells.length=a.af.aG.Cells.length))).bind fun _=>K z)=some r)
  (h: ∀z,g=some z→K z=some r→ZL γ Q k (p.drop (i+1)) (wE st (some d) (qL true [0,1,2,3] st.h d (rv z)) (j7 true st.h [0,1,2,3] d [0,1,2,3] [eo (pr z),aH (pr z).af,aI (pr z).af,aM (pr z).af,.box []]++(cA (rv z) [eo (pr z),aH (pr z).af,aI (pr z).af,aM (pr z).af,.box []]).map fun x=>nw st.h (aZ d x.1) x.2)))
  (h1:evR st (p.drop i)=some (some d,f,[0,1,2,3],l,[eo a,aH a.af,aI a.af,aM a.af]):=by kernel_rfl)
  (hr: ∀z,(decide ([0,1,2,3].length≤8)&&distinct ((cA (rv z) [eo (pr z),aH (pr z).af,aI (pr z).af,aM (pr z).af,.box []]).map (·.1))&&(cA (rv z) [eo (pr z),aH (pr z).af,aI (pr z).af,aM (pr z).af,.box []]).all (fun x=>decide (x.1<8)&& ![0,1,2,3].any (Nat.beq (aZ d x.1))))=true:=by intro _;kernel_rfl):ZL γ Q k (p.drop i) st:=by
 refine aq hS fun z hz hS=>aq hS fun _ c1 hS=>aq hS fun _ c2 hS=>aq hS fun _ c3 hS=>?_
 refine zXc d _ (hc z hz) ?_ (h z hz hS) h1 rfl (hr z)
 have d1:=of_decide_eq_true (gW c1)
 have d2:=of_decide_eq_true (gW c2)
 have d3:=of_decide_eq_true (gW c3)
 show (decide ((ak.cells (pr z).af.aG.Cells).length=(ak.cells a.af.aG.Cells).length)&&(decide ((ak.cells (pr z).af.aT.Cells).length=(ak.cells a.af.aT.Cells).length)&&(decide ((b_.cells (pr z).af.bn).length=(b_.cells a.af.bn).length)&&true)))=true
 simp only [cT.dF,d1,d2,d3,decide_true,Bool.and_self]
theorem WB{γ:ek}{Q:PQ}{k:List It}{st:St}{p:List PO}{i f:Nat}{R β:Type}{g:Option R}{K:R→Option β}{r:β}{a:List ah}{l:List PV}{pr:R→List ah}{rv:R→PV}(d:Nat)(ids:List Nat)
  (hc: ∀z,g=some z→γ f l [.own 87 4 (ak.cells a)]=some (rv z,[.own 87 4 (ak.cells (pr z)),.box []]))
  (hS:(g.bind fun z=>(bO (decide ((pr z).length=a.length))).bind fun _=>K z)=some r)
  (h: ∀z,g=some z→bO (decide ((pr z).length=a.length))=some ()→K z=some r→ZL γ Q k (p.drop (i+1)) (wE st (some d) (qL true ids st.h d (rv z)) (j7 true st.h ids d ids [.own 87 4 (ak.cells (pr z)),.box []]++(cA (rv z) [.own 87 4 (ak.cells (pr z)),.box []]).map fun x=>nw st.h (aZ d x.1) x.2)))
  (h1:evR st (p.drop i)=some (some d,f,ids,l,[.own 87 4 (ak.cells a)]):=by kernel_rfl) (w8:Nat.beq 2 (ids.length+1)=true:=by rfl)
  (hr: ∀z,(decide (ids.length≤8)&&distinct ((cA (rv z) [.own 87 4 (ak.cells (pr z)),.box []]).map (·.1))&&(cA (rv z) [.own 87 4 (ak.cells (pr z)),.box []]).all (fun x=>decide (x.1<8)&& !ids.any (Nat.beq (aZ d x.1))))=true:=by intro _;kernel_rfl):ZL γ Q k (p.drop i) st:=by
 refine aq hS fun z hz hS=>aq hS fun _ c1 hS=>?_
 refine zXc d _ (hc z hz) ?_ (h z hz c1 hS) h1 w8 (hr z)
 have d1:=of_decide_eq_true (gW c1)
 show (decide ((ak.cells (pr z)).length=(ak.cells a).length)&&true)=true
 simp only [cT.dF,d1,decide_true,Bool.and_self]
end Go.Proofs.YtimbfadnabfabaaGreatDoor.Pm
