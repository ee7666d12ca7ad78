/- The small machine's codes of some functions. Printed by dec.py. -/
import Derived.Test.YtobkkblijfhpoaaGreatDoorPa
import Derived.Test.YtobkkblijfhpoaaGreatDoorProg
namespace Go.Proofs.YtobkkblijfhpoaaGreatDoor.Rp
open Go.Proofs.YtobkkblijfhpoaaGreatDoor.Pm
set_option maxRecDepth 1000000
set_option maxHeartbeats 20000000
set_option linter.unusedVariables false
abbrev tm(n:Nat):Operand:= .tmp n
abbrev ki(n:Int):Operand:= .const (.int .i64 n)
abbrev po(d:Nat)(o:gP):PO:=⟨some d,o,none⟩
abbrev pm(d s:Nat):PO:=⟨some d,.jG (.tmp s),none⟩
abbrev dI(x:Int):PV:= .d (.int .i64 x)
abbrev dB(b:Bool):PV:= .d (.bool b)
abbrev pt(n:Nat):PV:= .r (.ptr n 0 0)
abbrev u0:Nat→PV:=fun _=> .un
abbrev h0:Nat→cL:=hB fun _=>0
section
variable {γ : cX} {Q : PX → St → Prop} {k : List It} {st : St} {p : List PO}
theorem zL{i:Nat}(n j:Nat)(h:ZL γ Q k (p.drop j) (Kw (fS γ ((p.drop i).take n) st)))(hj:i+n=j:=by rfl)(h1:(fS γ ((p.drop i).take n) st).isSome=true:=by kernel_rfl):ZL γ Q k (p.drop i) st:=ake hj h1 h
theorem zE{i:Nat}(h:ZK γ Q k .normal st)(h0:p.drop i= []:=by kernel_rfl):ZL γ Q k (p.drop i) st:=akf h0 h
theorem zT{c:Operand}{t e:aj}(h:ZR γ Q t k st)(hc:(cK st.s c).bool?=some true:=by kernel_rfl):ZR γ Q (.cond c t e) k st:=Tq hc h
theorem zF{c:Operand}{t e:aj}(h:ZR γ Q e k st)(hc:(cK st.s c).bool?=some false:=by kernel_rfl):ZR γ Q (.cond c t e) k st:=Ts hc h
theorem zO{i:Nat}{v:PV}{aH:eo}(d:Option Nat)(j:Nat)(op:gP)(h1:aD γ st.h (d.getD 0) (cK st.s) op=some (v,aH))(h:ZL γ Q k (p.drop j) (BC st d v aH))(hp:(p.drop i).take 1= [⟨d,op,none⟩]:=by kernel_rfl)(hj:i+1=j:=by rfl)(hg:vW st.s none=true:=by rfl):ZL γ Q k (p.drop i) st:=aaY hj hp hg h1 h
theorem fN{m:Nat}{fc:aO}{r:PV×List cj}{s:St}(h:bA s m fc.res=some r)(he:dZ fc.fin st=s:=by kernel_rfl)(hx:Kq fc.fin=false:=by kernel_rfl):bh fc m r .normal st:=XF hx ((congrArg (fun s=>bA s m fc.res) he).trans h)
theorem fR{m:Nat}{fc:aO}{r:PV×List cj}{s:St}(h:bA s m fc.res=some r)(he:dZ fc.fin st=s:=by kernel_rfl)(hx:Kq fc.fin=false:=by kernel_rfl):bh fc m r .ret st:=ko hx ((congrArg (fun s=>bA s m fc.res) he).trans h)
end
abbrev eI:dJ Int:=dR .i64
abbrev dL(x:List Int):PV:= .d (.sl x.length (eI.cells x))
abbrev dE{α:Type}(E:dJ α)(x:List α):PV:= .d (.sl x.length (E.cells x))
abbrev LP:=List PO
abbrev lf(e a:Nat):gP:= .load false e (.tmp a)
abbrev lt(e a:Nat):gP:= .load true e (.tmp a)
abbrev fd(k a:Nat):gP:= .Qa k (.tmp a)
abbrev ck(a:Nat)(n:Int):gP:= .a_ .eql (.tmp a) (.const (.int .i64 n))
abbrev c1(f a:Nat):gP:= .call f [.tmp a]
abbrev pS(e a b:Nat):PO:=⟨none,.store e (.tmp a) (.tmp b),none⟩
abbrev PQ:=PX→St→Prop
abbrev FQ(A Q:PQ):Prop:= ∀e bX,A e bX→Q e bX
section
variable {γ : cX} {Q : PX → St → Prop} {k : List It} {st : St} {p : List PO} {α : Type} {a b r : α} {c : Bool}
theorem sB{i:Nat}(d j:Nat)(op:gP)(hS:(bif c then a else b)=r)(ht:a=r→ZL γ Q k (p.drop j) (fD st d true))(hf:b=r→ZL γ Q k (p.drop j) (fD st d false))(hp:(p.drop i).take 1= [⟨some d,op,none⟩]:=by kernel_rfl)(h1:aD γ st.h d (cK st.s) op=some (.d (.bool c),[]):=by kernel_rfl)(hj:i+1=j:=by rfl):ZL γ Q k (p.drop i) st:=DW c hj hp rfl h1 (fun h=>ht (kX h hS)) fun h=>hf (kY h hS)
theorem sH{i:Nat}(d j g:Nat)(v:Bool)(op:gP)(hS:(bif c then a else b)=r)(ht:a=r→ZL γ Q k (p.drop j) (fD st d true))(hf:b=r→ZL γ Q k (p.drop j) (fD st d false))(hp:(p.drop i).take 1= [⟨some d,op,some (g,v)⟩]:=by kernel_rfl)(hg:vW st.s (some (g,v))=true:=by kernel_rfl)(h1:aD γ st.h d (cK st.s) op=some (.d (.bool c),[]):=by kernel_rfl)(hj:i+1=j:=by rfl):ZL γ Q k (p.drop i) st:=DW c hj hp hg h1 (fun h=>ht (kX h hS)) fun h=>hf (kY h hS)
theorem sR{c0:aj}(t:Nat)(hS:(bif c then a else b)=r)(ht:a=r→ZR γ Q c0 k (fD st t true))(hf:b=r→ZR γ Q c0 k (fD st t false))(h1:st.s t= .d (.bool c):=by kernel_rfl):ZR γ Q c0 k st:=Tt t c h1 (fun h=>ht (kX h hS)) fun h=>hf (kY h hS)
theorem sL{l:List PO}(t:Nat)(hS:(bif c then a else b)=r)(ht:a=r→ZL γ Q k l (fD st t true))(hf:b=r→ZL γ Q k l (fD st t false))(h1:st.s t= .d (.bool c):=by kernel_rfl):ZL γ Q k l st:=Tu t c h1 (fun h=>ht (kX h hS)) fun h=>hf (kY h hS)
theorem zG{i:Nat}{v:PV}{aH:eo}(d:Option Nat)(j g:Nat)(w:Bool)(op:gP)(h1:aD γ st.h (d.getD 0) (cK st.s) op=some (v,aH))(h:ZL γ Q k (p.drop j) (BC st d v aH))(hp:(p.drop i).take 1= [⟨d,op,some (g,w)⟩]:=by kernel_rfl)(hg:vW st.s (some (g,w))=true:=by kernel_rfl)(hj:i+1=j:=by rfl):ZL γ Q k (p.drop i) st:=aaY hj hp hg h1 h
variable {fP : List (Nat × Nat)} {acc : List (List (Nat × Bool))}
theorem D6{i:Nat}(d j:Nat)(g:Option (Nat×Bool))(op:gP)(hS:(bif c then a else b)=r)(ht:a=r→ZD γ Q fP k (acc++ [Nf st (some d) op]) (p.drop j) (fD st d true))(hf:b=r→ZD γ Q fP k (acc++ [Nf st (some d) op]) (p.drop j) (fD st d false))(hp:(p.drop i).take 1= [⟨some d,op,g⟩]:=by kernel_rfl)(hg:vW st.s g=true:=by kernel_rfl)(h1:aD γ st.h d (cK st.s) op=some (.d (.bool c),[]):=by kernel_rfl)(hj:i+1=j:=by rfl):ZD γ Q fP k acc (p.drop i) st:=aaX c rfl rfl hj hp hg h1 (fun h=>ht (kX h hS)) fun h=>hf (kY h hS)
theorem dx{i:Nat}(n j:Nat)(h:ZD γ Q fP k (acc++XE (fS γ ((p.drop i).take n) st)) (p.drop j) (Kw (fS γ ((p.drop i).take n) st)))(hj:i+n=j:=by rfl)(h1:(fS γ ((p.drop i).take n) st).isSome=true:=by kernel_rfl):ZD γ Q fP k acc (p.drop i) st:=akc hj h1 rfl rfl h
theorem iC{i:Nat}(h:ZK γ Q k .normal st)(h0:p.drop i= []:=by kernel_rfl)(ha:(fP.all fun x=>apart (acc.getD x.1 []) (acc.getD x.2 []))=true:=by kernel_rfl):ZD γ Q fP k acc (p.drop i) st:=akd h0 ha h
theorem eT{i:Nat}{v:PV}{aH:eo}(d:Option Nat)(j:Nat)(g:Option (Nat×Bool))(op:gP)(h1:aD γ st.h (d.getD 0) (cK st.s) op=some (v,aH))(h:ZD γ Q fP k (acc++ [Nf st d op]) (p.drop j) (BC st d v aH))(hp:(p.drop i).take 1= [⟨d,op,g⟩]:=by kernel_rfl)(hg:vW st.s g=true:=by kernel_rfl)(hj:i+1=j:=by rfl):ZD γ Q fP k acc (p.drop i) st:=awq rfl rfl hj hp hg h1 h
theorem iW{σ ρ:Type}{H:σ→St→Prop}{X:ρ→PX→St→Prop}{z:ρ}{r:σ⊕ρ}{e:PX}(hS:some (Sum.inr z)=some r)(hQ: ∀e bX,bS H X r e bX→Q e bX)(hne:e≠ .normal:=by intro h;cases h)(h:X z e st:=by show _=_∧_=_;exact ⟨rfl,rfl⟩):Q e st:=aM hS hQ (Ax hne h)
theorem xU{σ ρ:Type}{H:σ→St→Prop}{X:ρ→PX→St→Prop}{z:ρ}{r:σ⊕ρ}{e:PX}(hS:some (Sum.inr z)=some r)(hQ: ∀e bX,bS H X r e bX→Q e bX)(hne:e≠ .normal:=by intro h;cases h)(h:X z e st:=by show _=_∧_=_;exact ⟨rfl,by kernel_rfl⟩):Q e st:=aM hS hQ (Ax hne h)
theorem gC{σ ρ:Type}{H:σ→St→Prop}{X:ρ→PX→St→Prop}{z:σ}{r:σ⊕ρ}(hS:some (Sum.inl z)=some r)(hQ: ∀e bX,bS H X r e bX→Q e bX)(h:H z st:=by show aA _ _ _ _=_;kernel_rfl):Q .normal st:=aM hS hQ (aaS h)
variable {H : Nat → cL} {ρ : Nat → PV} {d : Nat}
theorem aW{ρ:Operand→PV}{f:Nat}{xs:List Operand}{l:List PV}{r:PV}(hc:γ f l []=some (r,[]))(hl:gH H (xs.map ρ)=some l:=by kernel_rfl)(hf:((bQ (xs.map ρ)).isEmpty || gq r)=true:=by kernel_rfl)(hr:(Pm.distinct ((owns r).map (·.1))&&(owns r).all (fun x=>decide (x.1<8)))=true:=by kernel_rfl):aD γ H d ρ (.call f xs)=some (Be H d r,(owns r).map fun x=>nw H (bf d x.1) x.2):=OS hl hc hf hr
theorem mg{ρ:Operand→PV}{f:Nat}{xs:List Operand}{l:List PV}(ids:List Nat){bt b_:List cj}{r:PV}(hc:γ f l bt=some (r,b_))(hi:gB H ((xs.map ρ).map tG)=ids:=by kernel_rfl)(hb:(gQ H ids).map (List.map (pR ids H))=some bt:=by kernel_rfl)(hl:xO ids H ((xs.map ρ).map tG)=l:=by kernel_rfl)
  (hr:(decide (b_.length=ids.length)&&decide (ids.length≤8)&&Pm.distinct ((cY r b_).map (·.1))&&(cY r b_).all (fun x=>decide (x.1<8)&& !ids.any (Nat.beq (bf d x.1))))=true:=by kernel_rfl):
  aD γ H d ρ (.er f xs)=some (tF false ids H d r,lB false H ids d ids b_++(cY r b_).map fun x=>nw H (bf d x.1) x.2):=KD hi hb hl hc hr
theorem pH{ρ:Operand→PV}{f:Nat}{xs:List Operand}{l:List PV}(ids:List Nat)(bs:List cj){bt b_:List cj}{r:PV}(hc:γ f l bt=some (r,b_))(hs:iA H ids b_=true)(hi:gB H ((xs.map ρ).map tG)=ids:=by kernel_rfl)(hb:gQ H ids=some bs:=by kernel_rfl)(hl:xO ids H ((xs.map ρ).map tG)=l:=by kernel_rfl)(ht:bs.map (pR ids H)=bt:=by kernel_rfl)
  (CJ:xG ids b_=true:=by kernel_rfl) (hr:(decide (ids.length≤8)&&Pm.distinct ((cY r b_).map (·.1))&&(cY r b_).all (fun x=>decide (x.1<8)&& !ids.any (Nat.beq (bf d x.1))))=true:=by kernel_rfl):
  aD γ H d ρ (.er f xs)=some (tF true ids H d r,lB true H ids d ids b_++(cY r b_).map fun x=>nw H (bf d x.1) x.2):=HV hi hb hl ht hc CJ hs hr
theorem lk{p q:PV}{ps qs:List PV}(h2:gH H ps=some qs)(h1:gp H p=some q:=by kernel_rfl):gH H (p::ps)=some (q::qs):=lZ h1 h2
end
abbrev cR:List Nat:= [8,9,10,100011,100015,100029,30,100032,100037,38,43,51,100059,60,61,65,100066,68,70,72,74,76,100077,100078,100079,100080,100082,88,103,105,108,100116,118,123,124,100130,100132,100133,100134,100136,100137,100138,100139,100142,100144,100145,156,157,100160,100161,100163,165,166,100167,170,100179,100180,100181,100183,100186,100191,203,204,205,206,208,210,213,217,218,200219,219,222,100230,238,239,240,241,242,243,244,246,247,248,249,250,255,268,269,270,272,273,275,277,279,281,282,283,284,287,288,289,290,292,301,303,305,306,308,309,311,314,315,316,318,337,100013,300273]
set_option linter.unusedSimpArgs false
structure bq where
 Flags:Int
 cz:Int
 b9:Int
structure aa where
 cW:Int
 bM:bq
structure aV where
 bV:Int
 cC:Int
 Cells:List aa
def QG:dJ bq:=⟨3,fun x=> [.int .i64 x.Flags,.int .i64 x.cz,.int .i64 x.b9],fun _=>rfl⟩
def ag:dJ aa:=⟨4,fun x=> [.int .i64 x.cW,.int .i64 x.bM.Flags,.int .i64 x.bM.cz,.int .i64 x.bM.b9],fun _=>rfl⟩
def ku:dJ (Int×Int):=⟨2,fun x=> [.int .i64 x.1,.int .i64 x.2],fun _=>rfl⟩
noncomputable section
noncomputable def CV:aj→List (List PO)
 | .ai p=> [p]
 | .eF p _=> [p]
 | .seq a b=>CV a++CV b
 | .cond _ a b=>CV a++CV b
 | .block _ a=>CV a
 | .loop a=>CV a
 | _=> []
noncomputable def rG(f i:Nat):LP:=match bz Go.Proofs.Tryz.prog cR f with
 | some c=>(CV c.body).getD i []
 | none=> []
def D7:aj:=(.seq (.ai (rG 127 0)) (.seq (.ai (rG 127 1)) .ret))
def yH:aO:=⟨15,D7,[(.tmp 6)],some ([6],[],[]),false⟩
theorem KN:bz Go.Proofs.Tryz.prog cR 127=some (aU yH):=by kernel_rfl
def aa4:aj:=(.seq (.ai (rG 187 0)) (.seq (.ai (rG 187 1)) .ret))
def TP:aO:=⟨11,aa4,[(.tmp 4)],some ([4],[],[]),false⟩
theorem akB:bz Go.Proofs.Tryz.prog cR 187=some (aU TP):=by kernel_rfl
def CW:aj:=(.seq (.ai (rG 91 0)) (.seq (.seq (.ai (rG 91 1)) (.cond (.tmp 4) (.seq (.ai (rG 91 2)) .ret) .skip)) (.seq (.ai (rG 91 3)) .ret)))
def vX:aO:=⟨8,CW,[(.tmp 2)],some ([2],[(97,(.slot 2 none))],[]),true⟩
theorem QH:bz Go.Proofs.Tryz.prog cR 91=some (aU vX):=by kernel_rfl
def D8:aj:=(.keep [1,3,4] [(16,.id 16),(32,.id 32)] [] (.seq (.block 1 (.ai (rG 180 4))) (.ai (rG 180 5))))
def D9:aj:=(.keep [1,3,4] [(16,.id 16),(32,.id 32)] [] (.seq (.seq (.ai (rG 180 3)) (.cond (.tmp 8) .skip (.keep [3] [(32,.id 32)] [] (.exit 0)))) D8))
def D_:aj:=(.seq (.ai (rG 180 0)) (.seq (.ai (rG 180 1)) (.seq (.seq (.ai (rG 180 2)) (.block 0 (.loop D9))) (.seq (.ai (rG 180 6)) .ret))))
def yI:aO:=⟨28,D_,[(.tmp 2)],some ([2],[(32,.id 32)],[]),false⟩
theorem KO:bz Go.Proofs.Tryz.prog cR 180=some (aU yI):=by kernel_rfl
def aa5:aj:=(.keep [3,4,5,6] [] [] (.seq (.cond (.tmp 6) .skip (.keep [3] [] [] (.exit 0))) (.seq (.block 1 (.ai (rG 262 4))) (.ai (rG 262 5)))))
def aa6:aj:=(.keep [3,4,5] [] [] (.seq (.ai (rG 262 3)) aa5))
def aa7:aj:=(.seq (.ai (rG 262 0)) (.seq (.ai (rG 262 1)) (.seq (.seq (.ai (rG 262 2)) (.block 0 (.loop aa6))) (.seq (.ai (rG 262 6)) .ret))))
def TQ:aO:=⟨11,aa7,[(.tmp 2)],some ([2],[],[]),false⟩
theorem akC:bz Go.Proofs.Tryz.prog cR 262=some (aU TQ):=by kernel_rfl
def aa8:aj:=(.keep [1,9,10,11] [(16,.id 16),(80,.id 80)] [] (.seq (.block 1 (.seq (.ai (rG 228 3)) (.seq (.ai (rG 228 4)) (.cond (.tmp 25) (.seq (.ai (rG 228 5)) .ret) .skip)))) (.ai (rG 228 6))))
def aa9:aj:=(.keep [1,9,10,11,12] [(16,.id 16),(80,.id 80)] [] (.seq (.cond (.tmp 12) .skip (.keep [1] [(16,.id 16)] [] (.exit 0))) aa8))
def aa_:aj:=(.keep [1,9,10,11] [(16,.id 16),(80,.id 80)] [] (.seq (.ai (rG 228 2)) aa9))
def aba:aj:=(.keep [1] [(16,.id 16)] [] (.seq (.seq (.ai (rG 228 7)) (.cond (.tmp 30) (.seq (.ai (rG 228 8)) .ret) .skip)) (.seq (.ai (rG 228 9)) .ret)))
def abb:aj:=(.seq (.ai (rG 228 0)) (.seq (.seq (.ai (rG 228 1)) (.block 0 (.loop aa_))) aba))
def KP:aO:=⟨31,abb,[(.tmp 2)],some ([2],[],[]),false⟩
theorem akD:bz Go.Proofs.Tryz.prog cR 228=some (aU KP):=by kernel_rfl
def Ea:aj:=(.seq (.ai (rG 178 0)) (.seq (.ai (rG 178 1)) .ret))
def yJ:aO:=⟨9,Ea,[(.tmp 2)],some ([2],[],[]),false⟩
theorem KQ:bz Go.Proofs.Tryz.prog cR 178=some (aU yJ):=by kernel_rfl
def Eb:aj:=(.keep [0,3,43,44,45] [(352,.id 352)] [] (.seq (.block 1 (.seq (.ai (rG 129 6)) (.seq (.ai (rG 129 7)) (.cond (.tmp 52) (.ai (rG 129 8)) .skip)))) (.ai (rG 129 9))))
def Ec:aj:=(.keep [0,3,43,44,45,46] [(352,.id 352)] [] (.seq (.cond (.tmp 46) .skip (.keep [3] [] [] (.exit 0))) Eb))
def Ed:aj:=(.keep [0,3,43,44,45] [(352,.id 352)] [] (.seq (.ai (rG 129 5)) Ec))
def Ee:aj:=(.keep [0] [] [] (.seq (.ai (rG 129 3)) (.seq (.seq (.ai (rG 129 4)) (.block 0 (.loop Ed))) (.seq (.ai (rG 129 10)) .ret))))
def Ef:aj:=(.seq (.ai (rG 129 0)) (.seq (.seq (.ai (rG 129 1)) (.cond (.tmp 8) (.seq (.ai (rG 129 2)) .ret) .skip)) Ee))
def yK:aO:=⟨57,Ef,[(.tmp 2)],some ([2],[],[]),false⟩
theorem KR:bz Go.Proofs.Tryz.prog cR 129=some (aU yK):=by kernel_rfl
def abc:aj:=(.keep [0,1] [] [] (.seq (.eF (rG 231 3) []) .ret))
def abd:aj:=(.seq (.ai (rG 231 0)) (.seq (.seq (.ai (rG 231 1)) (.cond (.tmp 10) (.seq (.eF (rG 231 2) []) .ret) .skip)) abc))
def TR:aO:=⟨74,abd,[(.tmp 4)],some ([4],[],[]),false⟩
theorem akE:bz Go.Proofs.Tryz.prog cR 231=some (aU TR):=by kernel_rfl
def abe:aj:=(.keep [4,23,24,25,29,30,31] [(192,.id 192)] [] (.seq (.block 3 (.seq (.ai (rG 227 10)) (.seq (.ai (rG 227 11)) (.cond (.tmp 56) (.seq (.ai (rG 227 12)) .ret) .skip)))) (.ai (rG 227 13))))
def abf:aj:=(.keep [4,23,24,25,29,30,31,32] [(192,.id 192)] [] (.seq (.cond (.tmp 32) .skip (.keep [23,24,25] [(192,.id 192)] [] (.exit 2))) abe))
def abg:aj:=(.keep [4,23,24,25,29,30,31] [(192,.id 192)] [] (.seq (.ai (rG 227 9)) abf))
def abh:aj:=(.keep [23,24,25] [(192,.id 192)] [] (.seq (.block 1 (.seq (.ai (rG 227 7)) (.seq (.ai (rG 227 8)) (.block 2 (.loop abg))))) (.ai (rG 227 14))))
def abj:aj:=(.keep [23,24,25,26] [(192,.id 192)] [] (.seq (.cond (.tmp 26) .skip (.keep [] [] [] (.exit 0))) abh))
def abk:aj:=(.keep [23,24,25] [(192,.id 192)] [] (.seq (.ai (rG 227 6)) abj))
def abl:aj:=(.keep [1] [(16,.id 16)] [] (.seq (.seq (.ai (rG 227 5)) (.block 0 (.loop abk))) (.seq (.ai (rG 227 15)) .ret)))
def abm:aj:=(.keep [1] [(16,.id 16)] [] (.seq (.seq (.ai (rG 227 3)) (.cond (.tmp 21) (.seq (.ai (rG 227 4)) .ret) .skip)) abl))
def abn:aj:=(.seq (.ai (rG 227 0)) (.seq (.seq (.ai (rG 227 1)) (.cond (.tmp 12) (.seq (.ai (rG 227 2)) .ret) .skip)) abm))
def H7:aO:=⟨59,abn,[(.tmp 2)],some ([2],[],[]),false⟩
theorem akF:bz Go.Proofs.Tryz.prog cR 227=some (aU H7):=by kernel_rfl
def abo:aj:=(.keep [0,3,8,9] [(56,.id 56)] [] (.seq (.block 1 (.seq (.ai (rG 190 4)) (.seq (.ai (rG 190 5)) (.cond (.tmp 15) (.ai (rG 190 6)) .skip)))) (.ai (rG 190 7))))
def abp:aj:=(.keep [0,3,8,9,10] [(56,.id 56)] [] (.seq (.cond (.tmp 10) .skip (.keep [3] [(56,.id 56)] [] (.exit 0))) abo))
def abq:aj:=(.keep [0,3,8,9] [(56,.id 56)] [] (.seq (.ai (rG 190 3)) abp))
def abr:aj:=(.seq (.ai (rG 190 0)) (.seq (.ai (rG 190 1)) (.seq (.seq (.ai (rG 190 2)) (.block 0 (.loop abq))) (.seq (.ai (rG 190 8)) .ret))))
def TS:aO:=⟨22,abr,[(.tmp 2)],some ([2],[(56,.id 56)],[]),false⟩
theorem akG:bz Go.Proofs.Tryz.prog cR 190=some (aU TS):=by kernel_rfl
def ate:aj:=(.keep [2,3,13,14,15] [(24,.id 24),(32,.id 32)] [] (.seq (.block 1 (.seq (.ai (rG 191 4)) (.ai (rG 191 5)))) (.ai (rG 191 6))))
def atf:aj:=(.keep [2,3,13,14,15,16] [(24,.id 24),(32,.id 32)] [] (.seq (.cond (.tmp 16) .skip (.keep [2,3] [(24,.id 24),(32,.id 32)] [] (.exit 0))) ate))
def atg:aj:=(.keep [2,3,13,14,15] [(24,.id 24),(32,.id 32)] [.cell 24 2 0 0 1,.cell 32 2 0 0 1] (.seq (.ai (rG 191 3)) atf))
def ath:aj:=(.seq (.ai (rG 191 0)) (.seq (.ai (rG 191 1)) (.seq (.seq (.ai (rG 191 2)) (.block 0 (.loop atg))) (.seq (.ai (rG 191 7)) .ret))))
def awu:aO:=⟨26,ath,[(.cell 2 .true 3)],some ([2],[(24,.id 24)],[]),false⟩
theorem akH:bz Go.Proofs.Tryz.prog cR 191=some (aU awu):=by kernel_rfl
def abt:aj:=(.seq (.ai (rG 189 0)) (.seq (.ai (rG 189 1)) .ret))
def TT:aO:=⟨5,abt,[(.cell 2 .true 4)],some ([2],[(24,.id 24)],[]),false⟩
theorem akI:bz Go.Proofs.Tryz.prog cR 189=some (aU TT):=by kernel_rfl
def abu:aj:=(.keep [3,5,10,11] [(32,.id 32),(72,.id 72)] [] (.seq (.block 1 (.seq (.ai (rG 188 4)) (.ai (rG 188 5)))) (.ai (rG 188 6))))
def abv:aj:=(.keep [3,5,10,11,12] [(32,.id 32),(72,.id 72)] [] (.seq (.cond (.tmp 12) .skip (.keep [5] [(72,.id 72)] [] (.exit 0))) abu))
def abw:aj:=(.keep [3,5,10,11] [(32,.id 32),(72,.id 72)] [] (.seq (.ai (rG 188 3)) abv))
def abx:aj:=(.seq (.ai (rG 188 0)) (.seq (.ai (rG 188 1)) (.seq (.seq (.ai (rG 188 2)) (.block 0 (.loop abw))) (.seq (.ai (rG 188 7)) .ret))))
def TU:aO:=⟨21,abx,[(.tmp 4)],some ([4],[(72,.id 72)],[]),false⟩
theorem akJ:bz Go.Proofs.Tryz.prog cR 188=some (aU TU):=by kernel_rfl
def ati:aj:=(.seq (.ai (rG 230 0)) (.seq (.seq (.ai (rG 230 1)) (.cond (.tmp 4) (.seq (.ai (rG 230 2)) .ret) .skip)) (.seq (.ai (rG 230 3)) .ret)))
def awv:aO:=⟨8,ati,[(.tmp 2)],some ([2],[(97,(.slot 2 none))],[]),true⟩
theorem akK:bz Go.Proofs.Tryz.prog cR 230=some (aU awv):=by kernel_rfl
def az:Nat→Option aO
 | 91=>some vX
 | 127=>some yH
 | 129=>some yK
 | 178=>some yJ
 | 180=>some yI
 | 187=>some TP
 | 188=>some TU
 | 189=>some TT
 | 190=>some TS
 | 191=>some awu
 | 227=>some H7
 | 228=>some KP
 | 230=>some awv
 | 231=>some TR
 | 262=>some TQ
 | _=>none
theorem lg: ∀f fc,az f=some fc→uw Go.Proofs.Tryz.prog cR f fc:=by
 intro f fc h
 unfold az at h
 split at h
 ·cases h;exact aK QH
 ·cases h;exact aK KN
 ·cases h;exact aK KR
 ·cases h;exact aK KQ
 ·cases h;exact aK KO
 ·cases h;exact aK akB
 ·cases h;exact aK akJ
 ·cases h;exact aK akI
 ·cases h;exact aK akG
 ·cases h;exact aK akH
 ·cases h;exact aK akF
 ·cases h;exact aK akD
 ·cases h;exact aK akK
 ·cases h;exact aK akE
 ·cases h;exact aK akC
 ·cases h
theorem KT:az 91=some vX:=rfl
theorem GP:az 127=some yH:=rfl
theorem GQ:az 129=some yK:=rfl
theorem GR:az 178=some yJ:=rfl
theorem GS:az 180=some yI:=rfl
theorem afq:az 187=some TP:=rfl
theorem afr:az 188=some TU:=rfl
theorem afs:az 189=some TT:=rfl
theorem aft:az 190=some TS:=rfl
theorem afu:az 227=some H7:=rfl
theorem afv:az 228=some KP:=rfl
theorem afw:az 231=some TR:=rfl
theorem afx:az 262=some TQ:=rfl
end
end Go.Proofs.YtobkkblijfhpoaaGreatDoor.Rp
