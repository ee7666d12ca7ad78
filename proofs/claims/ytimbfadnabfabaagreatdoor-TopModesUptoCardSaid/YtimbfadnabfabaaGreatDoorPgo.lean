/- A stretch that is determined is run by the kernel at one stroke; operations are looked up in the code. -/
import Derived.Test.YtimbfadnabfabaaGreatDoorPa
namespace Go.Proofs.YtimbfadnabfabaaGreatDoor.Pm
inductive Cf where
 | R (c:aj) (k:List It) (st:St)
 | L (k:List It) (l:List PO) (st:St)
 | K (k:List It) (e:PX) (st:St)
def Zc(γ:ek)(Q:PX→St→Prop):Cf→Prop
 | .R c k st=>ZR γ Q c k st
 | .L k l st=>ZL γ Q k l st
 | .K k e st=>ZK γ Q k e st
def V_(γ:ek)(k:List It)(st:St):aj→Option Cf
 | .seq a b=>some (.R a (.seq b::k) st)
 | .ai p=>some (.L k p st)
 | .cU p gi=>match gb γ p st with
  | some x=>if (gi.all fun y=>apart ((x.1.map (·.tc)).getD y.1 []) ((x.1.map (·.tc)).getD y.2 []))=true then some (.K k .normal x.2) else none
  | none=>none
 | .skip=>some (.K k .normal st)
 | .ret=>some (.K k .ret st)
 | .exit i=>some (.K k (.exit i) st)
 | .block i c=>some (.R c (.blk i::k) st)
 | .cond c t e=>match (bU st.s c).bool? with
  | some true=>some (.R t k st)
  | some false=>some (.R e k st)
  | none=>none
 | .keep L B A (.exit i)=>some (.R (.exit i) k (au L B A st))
 | .loop c=>some (.R c (.seq (.loop c)::k) st)
 | _=>none
def Wa(st:St):List It→PX→Option Cf
 | .seq b::k,.normal=>some (.R b k st)
 | .seq _::k,e=>some (.K k e st)
 | .blk _::k,.normal=>some (.K k .normal st)
 | .blk _::k,.ret=>some (.K k .ret st)
 | .blk i::k,.exit j=>match Nat.beq j i with
  | true=>some (.K k .normal st)
  | false=>some (.K k (.exit j) st)
 | [],_=>none
def aiy(γ:ek):Cf→Option Cf
 | .R c k st=>V_ γ k st c
 | .L k l st=>match gb γ l st with
  | some x=>some (.K k .normal x.2)
  | none=>none
 | .K k e st=>Wa st k e
def go(γ:ek):Nat→Cf→Cf
 | 0,cf=>cf
 | n+1,cf=>match aiy γ cf with
  | some x=>go γ n x
  | none=>cf
variable {γ : ek} {Q : PX → St → Prop} {k : List It} {st : St}
theorem adZ{p:List PO}{x:List Out×St}(h:gb γ p st=some x)(hk:ZK γ Q k .normal x.2):ZL γ Q k p st:=by
 have e:(p.drop 0).take p.length=p:=by simp
 have h1:ZL γ Q k (p.drop 0) st:=aif (i:=0) (n:=p.length) (j:=p.length) (Nat.zero_add _) (by rw [e,h];rfl) (by rw [e,h];exact aih (by simp) hk)
 exact h1
theorem ad0{p:List PO}{gi:List (Nat×Nat)}{x:List Out×St}(h:gb γ p st=some x)(ha:(gi.all fun y=>apart ((x.1.map (·.tc)).getD y.1 []) ((x.1.map (·.tc)).getD y.2 []))=true)(hk:ZK γ Q k .normal x.2):ZR γ Q (.cU p gi) k st:=by
 have e:(p.drop 0).take p.length=p:=by simp
 have h1:ZD γ Q gi k [] (p.drop 0) st:=aid (i:=0) (n:=p.length) (j:=p.length) (Nat.zero_add _) (by rw [e,h];rfl) rfl rfl (by
  rw [e,h]
  exact aie (by simp) ha hk)
 exact cC h1
theorem ad1{c:aj}{x:Cf}(h:V_ γ k st c=some x)(hz:Zc γ Q x):ZR γ Q c k st:=by
 unfold V_ at h
 split at h
 ·cases h;exact aC hz
 ·cases h;exact a_ hz
 ·split at h
  ·rename_i hx
   split at h
   ·rename_i ha;cases h;exact ad0 hx ha hz
   ·cases h
  ·cases h
 ·cases h;exact fP hz
 ·cases h;exact cM hz
 ·cases h;exact dh hz
 ·cases h;exact bz hz
 ·split at h
  ·rename_i hc;cases h;exact Sc hc hz
  ·rename_i hc;cases h;exact Sd hc hz
  ·cases h
 ·cases h;exact ay rfl hz
 ·cases h;exact aib hz
 ·cases h
theorem ad2{e:PX}{x:Cf}(h:Wa st k e=some x)(hz:Zc γ Q x):ZK γ Q k e st:=by
 unfold Wa at h
 split at h
 ·cases h;exact cj hz
 ·cases h
  cases e with
  | normal=>rename_i hn;exact absurd rfl hn
  | exit i=>exact cY hz
  | ret=>exact bP hz
 ·cases h;exact qX hz
 ·cases h;exact cr hz
 ·split at h
  ·rename_i hb;cases h
   have hb:=Nat.eq_of_beq_eq_true hb
   subst hb
   exact j9 hz
  ·rename_i hb;cases h;exact Zq hb hz
 ·cases h
theorem go_ok: ∀(n:Nat) (cf:Cf),Zc γ Q (go γ n cf)→Zc γ Q cf
 | 0,_,h=>h
 | n+1,cf,h=>by
  unfold go at h
  split at h
  ·rename_i x hx
   have h:=go_ok n x h
   cases cf with
   | R c k st=>exact ad1 hx h
   | L k l st=>
    simp only [aiy] at hx
    split at hx
    ·rename_i y hy;cases hx;exact adZ hy h
    ·cases hx
   | K k e st=>exact ad2 hx h
  ·exact h
def Na(fc:aK)(m:Nat):Cf→Option (PV×List bH)
 | .K [] .normal st=>xk (Lk fc.fin) (dY fc.fin st) m fc.res
 | .K [] .ret st=>xk (Lk fc.fin) (dY fc.fin st) m fc.res
 | _=>none
theorem aiz{fc:aK}{m:Nat}{r:PV×List bH}{cf:Cf}(h:Na fc m cf=some r)(hQ: ∀e bl,aV fc m r e bl→Q e bl):Zc γ Q cf:=by
 unfold Na at h
 split at h
 ·exact bk (hQ _ _ h)
 ·exact bk (hQ _ _ h)
 ·cases h
theorem nC{ρ:Type}{F:ρ→PX→St→Prop}{fc:aK}{m:Nat}{b:PV×List bH}{X r:ρ}{cf:Cf}(hS:some X=some r)(hQ: ∀e bl,F r e bl→Q e bl)(hF: ∀e bl,aV fc m b e bl→F X e bl)(h:Na fc m (go γ 400 cf)=some b):Zc γ Q cf:=by
 cases hS;exact go_ok 400 cf (aiz h fun e bl a=>hQ e bl (hF e bl a))
def keO(L:List Nat)(B:List (Nat×Loc))(A:List NA):Cf→Option (aj×List It×St)
 | .R c k st=>some (c,k,au L B A st)
 | _=>none
theorem jC{c':aj}{k':List It}{L:List Nat}{B:List (Nat×Loc)}{A:List NA}{J:St}{cf:Cf}(hj: ∀bl,au L B A bl=J→ZR γ Q c' k' bl)(h:keO L B A (go γ 400 cf)=some (c',k',J)):Zc γ Q cf:=by
 refine go_ok 400 cf ?_
 generalize go γ 400 cf=x at h
 cases x with
 | R c k st=>simp only [keO,Option.some.injEq,Prod.mk.injEq] at h;obtain ⟨rfl,rfl,h⟩:=h;exact hj st h
 | L k l st=>cases h
 | K k e st=>cases h
def kcO(L:List Nat)(B:List (Nat×Loc))(A:List NA):Cf→Option St
 | .K [] .normal st=>some (au L B A st)
 | _=>none
theorem lC{σ ρ:Type}{H:σ→St→Prop}{X:ρ→PX→St→Prop}{y:σ}{r:σ⊕ρ}{L:List Nat}{B:List (Nat×Loc)}{A:List NA}{J:St}{cf:Cf}(hS:some (Sum.inl y)=some r)(hQ: ∀e bl,bG H X r e bl→Q e bl)(hH: ∀bl,au L B A bl=J→H y bl)(h:kcO L B A (go γ 400 cf)=some J):Zc γ Q cf:=by
 cases hS
 refine go_ok 400 cf ?_
 generalize go γ 400 cf=x at h
 unfold kcO at h
 split at h
 ·exact bk (hQ _ _ (aqe (hH _ (Option.some.inj h))))
 ·cases h
section
variable {ρ : Type} {F : ρ → PX → St → Prop} {fc : aK} {m : Nat} {b : PV × List bH} {X r : ρ} {c : aj} {l : List PO} {e : PX}
theorem nR(hS:some X=some r)(hQ: ∀e bl,F r e bl→Q e bl)(hF: ∀e bl,aV fc m b e bl→F X e bl:=by exact fun _ _ h=>h)(h:Na fc m (go γ 400 (.R c k st))=some b:=by kernel_rfl):ZR γ Q c k st:=nC hS hQ hF h
theorem nL(hS:some X=some r)(hQ: ∀e bl,F r e bl→Q e bl)(hF: ∀e bl,aV fc m b e bl→F X e bl:=by exact fun _ _ h=>h)(h:Na fc m (go γ 400 (.L k l st))=some b:=by kernel_rfl):ZL γ Q k l st:=nC hS hQ hF h
theorem nK(hS:some X=some r)(hQ: ∀e bl,F r e bl→Q e bl)(hF: ∀e bl,aV fc m b e bl→F X e bl:=by exact fun _ _ h=>h)(h:Na fc m (go γ 400 (.K k e st))=some b:=by kernel_rfl):ZK γ Q k e st:=nC hS hQ hF h
variable {c' : aj} {k' : List It} {L : List Nat} {B : List (Nat × Loc)} {A : List NA} {J : St}
theorem jR(hj: ∀bl,au L B A bl=J→ZR γ Q c' k' bl)(h:keO L B A (go γ 400 (.R c k st))=some (c',k',J):=by kernel_rfl):ZR γ Q c k st:=jC hj h
theorem jL(hj: ∀bl,au L B A bl=J→ZR γ Q c' k' bl)(h:keO L B A (go γ 400 (.L k l st))=some (c',k',J):=by kernel_rfl):ZL γ Q k l st:=jC hj h
theorem jK(hj: ∀bl,au L B A bl=J→ZR γ Q c' k' bl)(h:keO L B A (go γ 400 (.K k e st))=some (c',k',J):=by kernel_rfl):ZK γ Q k e st:=jC hj h
variable {σ τ : Type} {H : σ → St → Prop} {Y : τ → PX → St → Prop} {y : σ} {s : σ ⊕ τ}
theorem lR(hS:some (Sum.inl y)=some s)(hQ: ∀e bl,bG H Y s e bl→Q e bl)(hH: ∀bl,au L B A bl=J→H y bl:=by exact fun _ h=>h)(h:kcO L B A (go γ 400 (.R c k st))=some J:=by kernel_rfl):ZR γ Q c k st:=lC hS hQ hH h
theorem lL(hS:some (Sum.inl y)=some s)(hQ: ∀e bl,bG H Y s e bl→Q e bl)(hH: ∀bl,au L B A bl=J→H y bl:=by exact fun _ h=>h)(h:kcO L B A (go γ 400 (.L k l st))=some J:=by kernel_rfl):ZL γ Q k l st:=lC hS hQ hH h
theorem lK(hS:some (Sum.inl y)=some s)(hQ: ∀e bl,bG H Y s e bl→Q e bl)(hH: ∀bl,au L B A bl=J→H y bl:=by exact fun _ h=>h)(h:kcO L B A (go γ 400 (.K k e st))=some J:=by kernel_rfl):ZK γ Q k e st:=lC hS hQ hH h
end
def evB(γ:ek)(st:St):List PO→Option (Nat×Bool)
 | ⟨some d,op,g⟩::_=>match vh st.s g,az γ st.h d (bU st.s) op with
  | true,some (.d (.bool c),[])=>some (d,c)
  | _,_=>none
 | _=>none
theorem aqt{p:List PO}{d:Nat}{c:Bool}(h:evB γ st p=some (d,c)): ∃op g,p.take 1= [⟨some d,op,g⟩]∧vh st.s g=true∧az γ st.h d (bU st.s) op=some (.d (.bool c),[]):=by
 unfold evB at h
 split at h
 ·rename_i d' op g r
  split at h
  ·rename_i h1 h2
   cases h
   exact ⟨op,g,rfl,h1,h2⟩
  ·cases h
 ·cases h
def evC(st:St):List PO→Option (Option Nat×Nat×List PV)
 | ⟨d,.call f xs,g⟩::_=>match vh st.s g,gU st.h (xs.map (bU st.s)) with
  | true,some l=>some (d,f,l)
  | _,_=>none
 | _=>none
def aiC(st:St)(r:PV):List PO→Bool
 | ⟨_,.call _ xs,_⟩::_=>(bA (xs.map (bU st.s))).isEmpty || fM r
 | _=>false
theorem aqu{p:List PO}{d:Option Nat}{f:Nat}{l:List PV}(h:evC st p=some (d,f,l)): ∃xs g,p.take 1= [⟨d,.call f xs,g⟩]∧vh st.s g=true∧gU st.h (xs.map (bU st.s))=some l∧ ∀r,aiC st r p=((bA (xs.map (bU st.s))).isEmpty || fM r):=by
 unfold evC at h
 split at h
 ·rename_i d' f' xs g r
  split at h
  ·rename_i h1 h2
   cases h
   exact ⟨xs,g,rfl,h1,h2,fun _=>rfl⟩
  ·cases h
 ·cases h
section
variable {p : List PO} {α : Type} {a b r : α} {c : Bool}
theorem sB{i:Nat}(d:Nat)(hS:(bif c then a else b)=r)(ht:a=r→ZL γ Q k (p.drop (i+1)) (iO st d true))(hf:b=r→ZL γ Q k (p.drop (i+1)) (iO st d false))(h:evB γ st (p.drop i)=some (d,c):=by kernel_rfl):ZL γ Q k (p.drop i) st:=by
 obtain ⟨op,g,h1,h2,h3⟩:=aqt h
 exact aqk c rfl h1 h2 h3 (fun h=>ht (CV h hS)) fun h=>hf (CW h hS)
variable {gi : List (Nat × Nat)} {acc : List (List (Nat × Bool))}
theorem zL{i:Nat}(n:Nat)(h:ZL γ Q k (p.drop (i+n)) (O3 (gb γ ((p.drop i).take n) st)))(h1:(gb γ ((p.drop i).take n) st).isSome=true:=by kernel_rfl):ZL γ Q k (p.drop i) st:=aif rfl h1 h
theorem cy{i:Nat}(n:Nat)(h:ZD γ Q gi k (acc++tcD (gb γ ((p.drop i).take n) st)) (p.drop (i+n)) (O3 (gb γ ((p.drop i).take n) st)))(h1:(gb γ ((p.drop i).take n) st).isSome=true:=by kernel_rfl):ZD γ Q gi k acc (p.drop i) st:=aid rfl h1 rfl rfl h
theorem zO{i:Nat}{v:PV}{aD:eu}(d:Option Nat)(op:kj)(h1:az γ st.h (d.getD 0) (bU st.s) op=some (v,aD))(h:ZL γ Q k (p.drop (i+1)) (wE st d v aD))(hp:(p.drop i).take 1= [⟨d,op,none⟩]:=by kernel_rfl)(hg:vh st.s none=true:=by rfl):ZL γ Q k (p.drop i) st:=Sg rfl hp hg h1 h
theorem zG{i:Nat}{v:PV}{aD:eu}(d:Option Nat)(g:Nat)(w:Bool)(op:kj)(h1:az γ st.h (d.getD 0) (bU st.s) op=some (v,aD))(h:ZL γ Q k (p.drop (i+1)) (wE st d v aD))(hp:(p.drop i).take 1= [⟨d,op,some (g,w)⟩]:=by kernel_rfl)(hg:vh st.s (some (g,w))=true:=by kernel_rfl):ZL γ Q k (p.drop i) st:=Sg rfl hp hg h1 h
theorem dr{i:Nat}{v:PV}{aD:eu}(d:Option Nat)(g:Option (Nat×Bool))(op:kj)(h1:az γ st.h (d.getD 0) (bU st.s) op=some (v,aD))(h:ZD γ Q gi k (acc++ [VZ st d op]) (p.drop (i+1)) (wE st d v aD))(hp:(p.drop i).take 1= [⟨d,op,g⟩]:=by kernel_rfl)(hg:vh st.s g=true:=by kernel_rfl):ZD γ Q gi k acc (p.drop i) st:=aBK rfl rfl rfl hp hg h1 h
theorem Ll{i:Nat}(d:Nat)(g:Option (Nat×Bool))(op:kj)(hS:(bif c then a else b)=r)(ht:a=r→ZD γ Q gi k (acc++ [VZ st (some d) op]) (p.drop (i+1)) (iO st d true))(hf:b=r→ZD γ Q gi k (acc++ [VZ st (some d) op]) (p.drop (i+1)) (iO st d false))(hp:(p.drop i).take 1= [⟨some d,op,g⟩]:=by kernel_rfl)(hg:vh st.s g=true:=by kernel_rfl)(h1:az γ st.h d (bU st.s) op=some (.d (.bool c),[]):=by kernel_rfl):ZD γ Q gi k acc (p.drop i) st:=aqj c rfl rfl rfl hp hg h1 (fun h=>ht (CV h hS)) fun h=>hf (CW h hS)
theorem zC{i:Nat}{f:Nat}{l:List PV}{v:PV}(d:Nat)(hc:γ f l []=some (v,[]))(h:ZL γ Q k (p.drop (i+1)) (wE st (some d) (Ah st.h d v) ((owns v).map fun x=>nw st.h (aZ d x.1) x.2)))(h1:evC st (p.drop i)=some (some d,f,l):=by kernel_rfl)(hf:aiC st v (p.drop i)=true:=by kernel_rfl)(hr:(distinct ((owns v).map (·.1))&&(owns v).all (fun x=>decide (x.1<8)))=true:=by kernel_rfl):ZL γ Q k (p.drop i) st:=by
 obtain ⟨xs,g,a1,a2,a3,a4⟩:=aqu h1
 rw [a4] at hf
 exact Sg rfl a1 a2 (M5 a3 hc hf hr) h
end
def evR(st:St):List PO→Option (Option Nat×Nat×List Nat×List PV×List bH)
 | ⟨d,.fO f xs,g⟩::_=>match vh st.s g,gH st.h (fK st.h ((xs.map (bU st.s)).map pZ)) with
  | true,some bs=>some (d,f,fK st.h ((xs.map (bU st.s)).map pZ),wN (fK st.h ((xs.map (bU st.s)).map pZ)) st.h ((xs.map (bU st.s)).map pZ),bs.map (nQ (fK st.h ((xs.map (bU st.s)).map pZ)) st.h))
  | _,_=>none
 | _=>none
theorem Zw{p:List PO}{d:Option Nat}{f:Nat}{ids:List Nat}{l:List PV}{bt:List bH}(h:evR st p=some (d,f,ids,l,bt)): ∃xs g bs,p.take 1= [⟨d,.fO f xs,g⟩]∧vh st.s g=true∧fK st.h ((xs.map (bU st.s)).map pZ)=ids∧gH st.h ids=some bs∧bs.map (nQ ids st.h)=bt∧wN ids st.h ((xs.map (bU st.s)).map pZ)=l:=by
 unfold evR at h
 split at h
 ·rename_i d' f' xs g r
  split at h
  ·rename_i h1 h2
   cases h
   exact ⟨xs,g,_,rfl,h1,rfl,h2,rfl,rfl⟩
  ·cases h
 ·cases h
def E3:List bH→List bH→Bool
 | .own _ _ cs::is,b::bs=>(match b with
  | .own _ _ cs'=>decide (cs'.length=cs.length)
  | _=>true)&&E3 is bs
 | .box _::is,_::bs=>E3 is bs
 | _,_=>true
theorem I5: ∀{H:Nat→cq} {is ids:List Nat} {bs bt bJ:List bH},gH H is=some bs→bs.map (nQ ids H)=bt→E3 bt bJ=true→iy H is bJ=true
 | H,[],ids,bs,bt,bJ,_,_,_=>by cases bJ<;>rfl
 | H,i::is,ids,bs,bt,[],_,_,_=>rfl
 | H,i::is,ids,bs,bt,b'::bJ,h,ht,hs=>by
  unfold gH at h
  split at h
  ·rename_i b l hb hl
   cases h
   subst ht
   cases b with
   | box cs=>
    simp only [List.map_cons,nQ,E3] at hs
    have q:=I5 hl rfl hs
    simp only [iy,hb,q]
    rfl
   | own e k cs=>
    simp only [List.map_cons,nQ,E3,Bool.and_eq_true] at hs
    have q:=I5 hl rfl hs.2
    simp only [iy,hb,q,Bool.and_true]
    cases b' with
    | box c=>rfl
    | own e' k' c=>exact hs.1
  ·cases h
section
variable {p : List PO}
theorem fS{i:Nat}{f:Nat}{l:List PV}{bt bJ:List bH}{v:PV}(d:Nat)(ids:List Nat)(hc:γ f l bt=some (v,bJ))(h:ZL γ Q k (p.drop (i+1)) (wE st (some d) (qL false ids st.h d v) (j7 false st.h ids d ids bJ++(cA v bJ).map fun x=>nw st.h (aZ d x.1) x.2)))(h1:evR st (p.drop i)=some (some d,f,ids,l,bt):=by kernel_rfl)
  (hr:(decide (bJ.length=ids.length)&&decide (ids.length≤8)&&distinct ((cA v bJ).map (·.1))&&(cA v bJ).all (fun x=>decide (x.1<8)&& !ids.any (Nat.beq (aZ d x.1))))=true:=by kernel_rfl):ZL γ Q k (p.drop i) st:=by
 obtain ⟨xs,g,bs,a1,a2,a3,a4,a5,a6⟩:=Zw h1
 exact Sg rfl a1 a2 (IX a3 (by rw [a4,←a5];rfl) a6 hc hr) h
theorem zXc{i:Nat}{f:Nat}{l:List PV}{bt bJ:List bH}{v:PV}(d:Nat)(ids:List Nat)(hc:γ f l bt=some (v,bJ))(hs:E3 bt bJ=true)(h:ZL γ Q k (p.drop (i+1)) (wE st (some d) (qL true ids st.h d v) (j7 true st.h ids d ids bJ++(cA v bJ).map fun x=>nw st.h (aZ d x.1) x.2)))(h1:evR st (p.drop i)=some (some d,f,ids,l,bt))
  (w8:wC ids bJ=true) (hr:(decide (ids.length≤8)&&distinct ((cA v bJ).map (·.1))&&(cA v bJ).all (fun x=>decide (x.1<8)&& !ids.any (Nat.beq (aZ d x.1))))=true):ZL γ Q k (p.drop i) st:=by
 obtain ⟨xs,g,bs,a1,a2,a3,a4,a5,a6⟩:=Zw h1
 exact Sg rfl a1 a2 (FN a3 a4 a6 a5 hc w8 (I5 a4 a5 hs) hr) h
end
end Go.Proofs.YtimbfadnabfabaaGreatDoor.Pm
