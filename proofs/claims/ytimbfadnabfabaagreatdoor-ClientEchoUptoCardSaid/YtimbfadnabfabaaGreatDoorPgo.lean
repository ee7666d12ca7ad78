/- A stretch that is determined is run by the kernel at one stroke; operations are looked up in the code. -/
import Derived.Test.YtimbfadnabfabaaGreatDoorPa
namespace Go.Proofs.YtimbfadnabfabaaGreatDoor.Pm
inductive Cf where
 | R (c:ak) (k:List It) (st:St)
 | L (k:List It) (l:List PO) (st:St)
 | K (k:List It) (e:PX) (st:St)
def Zc(γ:dZ)(Q:PX→St→Prop):Cf→Prop
 | .R c k st=>ZR γ Q c k st
 | .L k l st=>ZL γ Q k l st
 | .K k e st=>ZK γ Q k e st
def WI(γ:dZ)(k:List It)(st:St):ak→Option Cf
 | .seq a b=>some (.R a (.seq b::k) st)
 | .ai p=>some (.L k p st)
 | .cU p gy=>match gp γ p st with
  | some x=>if (gy.all fun y=>apart ((x.1.map (·.tc)).getD y.1 []) ((x.1.map (·.tc)).getD y.2 []))=true then some (.K k .normal x.2) else none
  | none=>none
 | .skip=>some (.K k .normal st)
 | .ret=>some (.K k .ret st)
 | .exit i=>some (.K k (.exit i) st)
 | .block i c=>some (.R c (.blk i::k) st)
 | .cond c t e=>match (b8 st.s c).bool? with
  | some true=>some (.R t k st)
  | some false=>some (.R e k st)
  | none=>none
 | .keep L B A (.exit i)=>some (.R (.exit i) k (au L B A st))
 | .loop c=>some (.R c (.seq (.loop c)::k) st)
 | _=>none
def WJ(st:St):List It→PX→Option Cf
 | .seq b::k,.normal=>some (.R b k st)
 | .seq _::k,e=>some (.K k e st)
 | .blk _::k,.normal=>some (.K k .normal st)
 | .blk _::k,.ret=>some (.K k .ret st)
 | .blk i::k,.exit j=>match Nat.beq j i with
  | true=>some (.K k .normal st)
  | false=>some (.K k (.exit j) st)
 | [],_=>none
def akc(γ:dZ):Cf→Option Cf
 | .R c k st=>WI γ k st c
 | .L k l st=>match gp γ l st with
  | some x=>some (.K k .normal x.2)
  | none=>none
 | .K k e st=>WJ st k e
def go(γ:dZ):Nat→Cf→Cf
 | 0,cf=>cf
 | n+1,cf=>match akc γ cf with
  | some x=>go γ n x
  | none=>cf
variable {γ : dZ} {Q : PX → St → Prop} {k : List It} {st : St}
theorem afC{p:List PO}{x:List Out×St}(h:gp γ p st=some x)(hk:ZK γ Q k .normal x.2):ZL γ Q k p st:=by
 have e:(p.drop 0).take p.length=p:=by simp
 have h1:ZL γ Q k (p.drop 0) st:=ajT (i:=0) (n:=p.length) (j:=p.length) (Nat.zero_add _) (by rw [e,h];rfl) (by rw [e,h];exact ajU (by simp) hk)
 exact h1
theorem afD{p:List PO}{gy:List (Nat×Nat)}{x:List Out×St}(h:gp γ p st=some x)(ha:(gy.all fun y=>apart ((x.1.map (·.tc)).getD y.1 []) ((x.1.map (·.tc)).getD y.2 []))=true)(hk:ZK γ Q k .normal x.2):ZR γ Q (.cU p gy) k st:=by
 have e:(p.drop 0).take p.length=p:=by simp
 have h1:ZD γ Q gy k [] (p.drop 0) st:=ajR (i:=0) (n:=p.length) (j:=p.length) (Nat.zero_add _) (by rw [e,h];rfl) rfl rfl (by
  rw [e,h]
  exact ajS (by simp) ha hk)
 exact cG h1
theorem afE{c:ak}{x:Cf}(h:WI γ k st c=some x)(hz:Zc γ Q x):ZR γ Q c k st:=by
 unfold WI at h
 split at h
 ·cases h;exact aC hz
 ·cases h;exact a_ hz
 ·split at h
  ·rename_i hx
   split at h
   ·rename_i ha;cases h;exact afD hx ha hz
   ·cases h
  ·cases h
 ·cases h;exact fV hz
 ·cases h;exact cL hz
 ·cases h;exact cX hz
 ·cases h;exact bw hz
 ·split at h
  ·rename_i hc;cases h;exact SP hc hz
  ·rename_i hc;cases h;exact SQ hc hz
  ·cases h
 ·cases h;exact av rfl hz
 ·cases h;exact ajP hz
 ·cases h
theorem afF{e:PX}{x:Cf}(h:WJ st k e=some x)(hz:Zc γ Q x):ZK γ Q k e st:=by
 unfold WJ at h
 split at h
 ·cases h;exact cq hz
 ·cases h
  cases e with
  | normal=>rename_i hn;exact absurd rfl hn
  | exit i=>exact cV hz
  | ret=>exact bQ hz
 ·cases h;exact rW hz
 ·cases h;exact cj hz
 ·split at h
  ·rename_i hb;cases h
   have hb:=Nat.eq_of_beq_eq_true hb
   subst hb
   exact kq hz
  ·rename_i hb;cases h;exact Z8 hb hz
 ·cases h
theorem go_ok: ∀(n:Nat) (cf:Cf),Zc γ Q (go γ n cf)→Zc γ Q cf
 | 0,_,h=>h
 | n+1,cf,h=>by
  unfold go at h
  split at h
  ·rename_i x hx
   have h:=go_ok n x h
   cases cf with
   | R c k st=>exact afE hx h
   | L k l st=>
    simp only [akc] at hx
    split at hx
    ·rename_i y hy;cases hx;exact afC hy h
    ·cases hx
   | K k e st=>exact afF hx h
  ·exact h
def NY(fc:aK)(m:Nat):Cf→Option (PV×List bM)
 | .K [] .normal st=>yN (Md fc.fin) (dV fc.fin st) m fc.res
 | .K [] .ret st=>yN (Md fc.fin) (dV fc.fin st) m fc.res
 | _=>none
theorem akd{fc:aK}{m:Nat}{r:PV×List bM}{cf:Cf}(h:NY fc m cf=some r)(hQ: ∀e bl,aU fc m r e bl→Q e bl):Zc γ Q cf:=by
 unfold NY at h
 split at h
 ·exact bg (hQ _ _ h)
 ·exact bg (hQ _ _ h)
 ·cases h
theorem nC{ρ:Type}{F:ρ→PX→St→Prop}{fc:aK}{m:Nat}{b:PV×List bM}{X r:ρ}{cf:Cf}(hS:some X=some r)(hQ: ∀e bl,F r e bl→Q e bl)(hF: ∀e bl,aU fc m b e bl→F X e bl)(h:NY fc m (go γ 400 cf)=some b):Zc γ Q cf:=by
 cases hS;exact go_ok 400 cf (akd h fun e bl a=>hQ e bl (hF e bl a))
def keO(L:List Nat)(B:List (Nat×Loc))(A:List NA):Cf→Option (ak×List It×St)
 | .R c k st=>some (c,k,au L B A st)
 | _=>none
theorem jC{c':ak}{k':List It}{L:List Nat}{B:List (Nat×Loc)}{A:List NA}{J:St}{cf:Cf}(hj: ∀bl,au L B A bl=J→ZR γ Q c' k' bl)(h:keO L B A (go γ 400 cf)=some (c',k',J)):Zc γ Q cf:=by
 refine go_ok 400 cf ?_
 generalize go γ 400 cf=x at h
 cases x with
 | R c k st=>simp only [keO,Option.some.injEq,Prod.mk.injEq] at h;obtain ⟨rfl,rfl,h⟩:=h;exact hj st h
 | L k l st=>cases h
 | K k e st=>cases h
def kcO(L:List Nat)(B:List (Nat×Loc))(A:List NA):Cf→Option St
 | .K [] .normal st=>some (au L B A st)
 | _=>none
theorem lC{σ ρ:Type}{H:σ→St→Prop}{X:ρ→PX→St→Prop}{y:σ}{r:σ⊕ρ}{L:List Nat}{B:List (Nat×Loc)}{A:List NA}{J:St}{cf:Cf}(hS:some (Sum.inl y)=some r)(hQ: ∀e bl,bG H X r e bl→Q e bl)(hH: ∀bl,au L B A bl=J→H y bl)(h:kcO L B A (go γ 400 cf)=some J):Zc γ Q cf:=by
 cases hS
 refine go_ok 400 cf ?_
 generalize go γ 400 cf=x at h
 unfold kcO at h
 split at h
 ·exact bg (hQ _ _ (ate (hH _ (Option.some.inj h))))
 ·cases h
section
variable {ρ : Type} {F : ρ → PX → St → Prop} {fc : aK} {m : Nat} {b : PV × List bM} {X r : ρ} {c : ak} {l : List PO} {e : PX}
theorem nR(hS:some X=some r)(hQ: ∀e bl,F r e bl→Q e bl)(hF: ∀e bl,aU fc m b e bl→F X e bl:=by exact fun _ _ h=>h)(h:NY fc m (go γ 400 (.R c k st))=some b:=by kernel_rfl):ZR γ Q c k st:=nC hS hQ hF h
theorem nL(hS:some X=some r)(hQ: ∀e bl,F r e bl→Q e bl)(hF: ∀e bl,aU fc m b e bl→F X e bl:=by exact fun _ _ h=>h)(h:NY fc m (go γ 400 (.L k l st))=some b:=by kernel_rfl):ZL γ Q k l st:=nC hS hQ hF h
theorem nK(hS:some X=some r)(hQ: ∀e bl,F r e bl→Q e bl)(hF: ∀e bl,aU fc m b e bl→F X e bl:=by exact fun _ _ h=>h)(h:NY fc m (go γ 400 (.K k e st))=some b:=by kernel_rfl):ZK γ Q k e st:=nC hS hQ hF h
variable {c' : ak} {k' : List It} {L : List Nat} {B : List (Nat × Loc)} {A : List NA} {J : St}
theorem jR(hj: ∀bl,au L B A bl=J→ZR γ Q c' k' bl)(h:keO L B A (go γ 400 (.R c k st))=some (c',k',J):=by kernel_rfl):ZR γ Q c k st:=jC hj h
theorem jL(hj: ∀bl,au L B A bl=J→ZR γ Q c' k' bl)(h:keO L B A (go γ 400 (.L k l st))=some (c',k',J):=by kernel_rfl):ZL γ Q k l st:=jC hj h
theorem jK(hj: ∀bl,au L B A bl=J→ZR γ Q c' k' bl)(h:keO L B A (go γ 400 (.K k e st))=some (c',k',J):=by kernel_rfl):ZK γ Q k e st:=jC hj h
variable {σ τ : Type} {H : σ → St → Prop} {Y : τ → PX → St → Prop} {y : σ} {s : σ ⊕ τ}
theorem lR(hS:some (Sum.inl y)=some s)(hQ: ∀e bl,bG H Y s e bl→Q e bl)(hH: ∀bl,au L B A bl=J→H y bl:=by exact fun _ h=>h)(h:kcO L B A (go γ 400 (.R c k st))=some J:=by kernel_rfl):ZR γ Q c k st:=lC hS hQ hH h
theorem lL(hS:some (Sum.inl y)=some s)(hQ: ∀e bl,bG H Y s e bl→Q e bl)(hH: ∀bl,au L B A bl=J→H y bl:=by exact fun _ h=>h)(h:kcO L B A (go γ 400 (.L k l st))=some J:=by kernel_rfl):ZL γ Q k l st:=lC hS hQ hH h
theorem lK(hS:some (Sum.inl y)=some s)(hQ: ∀e bl,bG H Y s e bl→Q e bl)(hH: ∀bl,au L B A bl=J→H y bl:=by exact fun _ h=>h)(h:kcO L B A (go γ 400 (.K k e st))=some J:=by kernel_rfl):ZK γ Q k e st:=lC hS hQ hH h
end
def evB(γ:dZ)(st:St):List PO→Option (Nat×Bool)
 | ⟨some d,op,g⟩::_=>match wI st.s g,az γ st.h d (b8 st.s) op with
  | true,some (.d (.bool c),[])=>some (d,c)
  | _,_=>none
 | _=>none
theorem atu{p:List PO}{d:Nat}{c:Bool}(h:evB γ st p=some (d,c)): ∃op g,p.take 1= [⟨some d,op,g⟩]∧wI st.s g=true∧az γ st.h d (b8 st.s) op=some (.d (.bool c),[]):=by
 unfold evB at h
 split at h
 ·rename_i d' op g r
  split at h
  ·rename_i h1 h2
   cases h
   exact ⟨op,g,rfl,h1,h2⟩
  ·cases h
 ·cases h
def evC(st:St):List PO→Option (Option Nat×Nat×List PV)
 | ⟨d,.call f xs,g⟩::_=>match wI st.s g,gX st.h (xs.map (b8 st.s)) with
  | true,some l=>some (d,f,l)
  | _,_=>none
 | _=>none
def akg(st:St)(r:PV):List PO→Bool
 | ⟨_,.call _ xs,_⟩::_=>(bB (xs.map (b8 st.s))).isEmpty || fT r
 | _=>false
theorem atv{p:List PO}{d:Option Nat}{f:Nat}{l:List PV}(h:evC st p=some (d,f,l)): ∃xs g,p.take 1= [⟨d,.call f xs,g⟩]∧wI st.s g=true∧gX st.h (xs.map (b8 st.s))=some l∧ ∀r,akg st r p=((bB (xs.map (b8 st.s))).isEmpty || fT r):=by
 unfold evC at h
 split at h
 ·rename_i d' f' xs g r
  split at h
  ·rename_i h1 h2
   cases h
   exact ⟨xs,g,rfl,h1,h2,fun _=>rfl⟩
  ·cases h
 ·cases h
section
variable {p : List PO} {α : Type} {a b r : α} {c : Bool}
theorem sB{i:Nat}(d:Nat)(hS:(bif c then a else b)=r)(ht:a=r→ZL γ Q k (p.drop (i+1)) (iR st d true))(hf:b=r→ZL γ Q k (p.drop (i+1)) (iR st d false))(h:evB γ st (p.drop i)=some (d,c):=by kernel_rfl):ZL γ Q k (p.drop i) st:=by
 obtain ⟨op,g,h1,h2,h3⟩:=atu h
 exact Z9 c rfl h1 h2 h3 (fun h=>ht (Aq h hS)) fun h=>hf (Ar h hS)
variable {gy : List (Nat × Nat)} {acc : List (List (Nat × Bool))}
theorem zL{i:Nat}(n:Nat)(h:ZL γ Q k (p.drop (i+n)) (PW (gp γ ((p.drop i).take n) st)))(h1:(gp γ ((p.drop i).take n) st).isSome=true:=by kernel_rfl):ZL γ Q k (p.drop i) st:=ajT rfl h1 h
theorem cy{i:Nat}(n:Nat)(h:ZD γ Q gy k (acc++tcD (gp γ ((p.drop i).take n) st)) (p.drop (i+n)) (PW (gp γ ((p.drop i).take n) st)))(h1:(gp γ ((p.drop i).take n) st).isSome=true:=by kernel_rfl):ZD γ Q gy k acc (p.drop i) st:=ajR rfl h1 rfl rfl h
theorem zO{i:Nat}{v:PV}{aD:eu}(d:Option Nat)(op:kA)(h1:az γ st.h (d.getD 0) (b8 st.s) op=some (v,aD))(h:ZL γ Q k (p.drop (i+1)) (xY st d v aD))(hp:(p.drop i).take 1= [⟨d,op,none⟩]:=by kernel_rfl)(hg:wI st.s none=true:=by rfl):ZL γ Q k (p.drop i) st:=SR rfl hp hg h1 h
theorem zG{i:Nat}{v:PV}{aD:eu}(d:Option Nat)(g:Nat)(w:Bool)(op:kA)(h1:az γ st.h (d.getD 0) (b8 st.s) op=some (v,aD))(h:ZL γ Q k (p.drop (i+1)) (xY st d v aD))(hp:(p.drop i).take 1= [⟨d,op,some (g,w)⟩]:=by kernel_rfl)(hg:wI st.s (some (g,w))=true:=by kernel_rfl):ZL γ Q k (p.drop i) st:=SR rfl hp hg h1 h
theorem di{i:Nat}{v:PV}{aD:eu}(d:Option Nat)(g:Option (Nat×Bool))(op:kA)(h1:az γ st.h (d.getD 0) (b8 st.s) op=some (v,aD))(h:ZD γ Q gy k (acc++ [Wx st d op]) (p.drop (i+1)) (xY st d v aD))(hp:(p.drop i).take 1= [⟨d,op,g⟩]:=by kernel_rfl)(hg:wI st.s g=true:=by kernel_rfl):ZD γ Q gy k acc (p.drop i) st:=aC2 rfl rfl rfl hp hg h1 h
theorem JY{i:Nat}(d:Nat)(g:Option (Nat×Bool))(op:kA)(hS:(bif c then a else b)=r)(ht:a=r→ZD γ Q gy k (acc++ [Wx st (some d) op]) (p.drop (i+1)) (iR st d true))(hf:b=r→ZD γ Q gy k (acc++ [Wx st (some d) op]) (p.drop (i+1)) (iR st d false))(hp:(p.drop i).take 1= [⟨some d,op,g⟩]:=by kernel_rfl)(hg:wI st.s g=true:=by kernel_rfl)(h1:az γ st.h d (b8 st.s) op=some (.d (.bool c),[]):=by kernel_rfl):ZD γ Q gy k acc (p.drop i) st:=atj c rfl rfl rfl hp hg h1 (fun h=>ht (Aq h hS)) fun h=>hf (Ar h hS)
theorem zC{i:Nat}{f:Nat}{l:List PV}{v:PV}(d:Nat)(hc:γ f l []=some (v,[]))(h:ZL γ Q k (p.drop (i+1)) (xY st (some d) (Bk st.h d v) ((owns v).map fun x=>nw st.h (aZ d x.1) x.2)))(h1:evC st (p.drop i)=some (some d,f,l):=by kernel_rfl)(hf:akg st v (p.drop i)=true:=by kernel_rfl)(hr:(distinct ((owns v).map (·.1))&&(owns v).all (fun x=>decide (x.1<8)))=true:=by kernel_rfl):ZL γ Q k (p.drop i) st:=by
 obtain ⟨xs,g,a1,a2,a3,a4⟩:=atv h1
 rw [a4] at hf
 exact SR rfl a1 a2 (NS a3 hc hf hr) h
end
def evR(st:St):List PO→Option (Option Nat×Nat×List Nat×List PV×List bM)
 | ⟨d,.fU f xs,g⟩::_=>match wI st.s g,gN st.h (fQ st.h ((xs.map (b8 st.s)).map qQ)) with
  | true,some bs=>some (d,f,fQ st.h ((xs.map (b8 st.s)).map qQ),yh (fQ st.h ((xs.map (b8 st.s)).map qQ)) st.h ((xs.map (b8 st.s)).map qQ),bs.map (om (fQ st.h ((xs.map (b8 st.s)).map qQ)) st.h))
  | _,_=>none
 | _=>none
theorem aae{p:List PO}{d:Option Nat}{f:Nat}{ids:List Nat}{l:List PV}{bt:List bM}(h:evR st p=some (d,f,ids,l,bt)): ∃xs g bs,p.take 1= [⟨d,.fU f xs,g⟩]∧wI st.s g=true∧fQ st.h ((xs.map (b8 st.s)).map qQ)=ids∧gN st.h ids=some bs∧bs.map (om ids st.h)=bt∧yh ids st.h ((xs.map (b8 st.s)).map qQ)=l:=by
 unfold evR at h
 split at h
 ·rename_i d' f' xs g r
  split at h
  ·rename_i h1 h2
   cases h
   exact ⟨xs,g,_,rfl,h1,rfl,h2,rfl,rfl⟩
  ·cases h
 ·cases h
def FR:List bM→List bM→Bool
 | .own _ _ cs::is,b::bs=>(match b with
  | .own _ _ cs'=>decide (cs'.length=cs.length)
  | _=>true)&&FR is bs
 | .box _::is,_::bs=>FR is bs
 | _,_=>true
theorem JZ: ∀{H:Nat→cw} {is ids:List Nat} {bs bt bL:List bM},gN H is=some bs→bs.map (om ids H)=bt→FR bt bL=true→iz H is bL=true
 | H,[],ids,bs,bt,bL,_,_,_=>by cases bL<;>rfl
 | H,i::is,ids,bs,bt,[],_,_,_=>rfl
 | H,i::is,ids,bs,bt,b'::bL,h,ht,hs=>by
  unfold gN at h
  split at h
  ·rename_i b l hb hl
   cases h
   subst ht
   cases b with
   | box cs=>
    simp only [List.map_cons,om,FR] at hs
    have q:=JZ hl rfl hs
    simp only [iz,hb,q]
    rfl
   | own e k cs=>
    simp only [List.map_cons,om,FR,Bool.and_eq_true] at hs
    have q:=JZ hl rfl hs.2
    simp only [iz,hb,q,Bool.and_true]
    cases b' with
    | box c=>rfl
    | own e' k' c=>exact hs.1
  ·cases h
section
variable {p : List PO}
theorem fW{i:Nat}{f:Nat}{l:List PV}{bt bL:List bM}{v:PV}(d:Nat)(ids:List Nat)(hc:γ f l bt=some (v,bL))(h:ZL γ Q k (p.drop (i+1)) (xY st (some d) (rM false ids st.h d v) (kn false st.h ids d ids bL++(cE v bL).map fun x=>nw st.h (aZ d x.1) x.2)))(h1:evR st (p.drop i)=some (some d,f,ids,l,bt):=by kernel_rfl)
  (hr:(decide (bL.length=ids.length)&&decide (ids.length≤8)&&distinct ((cE v bL).map (·.1))&&(cE v bL).all (fun x=>decide (x.1<8)&& !ids.any (Nat.beq (aZ d x.1))))=true:=by kernel_rfl):ZL γ Q k (p.drop i) st:=by
 obtain ⟨xs,g,bs,a1,a2,a3,a4,a5,a6⟩:=aae h1
 exact SR rfl a1 a2 (JP a3 (by rw [a4,←a5];rfl) a6 hc hr) h
theorem zXc{i:Nat}{f:Nat}{l:List PV}{bt bL:List bM}{v:PV}(d:Nat)(ids:List Nat)(hc:γ f l bt=some (v,bL))(hs:FR bt bL=true)(h:ZL γ Q k (p.drop (i+1)) (xY st (some d) (rM true ids st.h d v) (kn true st.h ids d ids bL++(cE v bL).map fun x=>nw st.h (aZ d x.1) x.2)))(h1:evR st (p.drop i)=some (some d,f,ids,l,bt))
  (yE:xW ids bL=true) (hr:(decide (ids.length≤8)&&distinct ((cE v bL).map (·.1))&&(cE v bL).all (fun x=>decide (x.1<8)&& !ids.any (Nat.beq (aZ d x.1))))=true):ZL γ Q k (p.drop i) st:=by
 obtain ⟨xs,g,bs,a1,a2,a3,a4,a5,a6⟩:=aae h1
 exact SR rfl a1 a2 (GF a3 a4 a6 a5 hc yE (JZ a4 a5 hs) hr) h
end
end Go.Proofs.YtimbfadnabfabaaGreatDoor.Pm
