/- The small machine: typed data, loops, and the rules by which a run is shown to be a typed function. No program is named here. -/
import Derived.Test.YtimbfadnabfabaaGreatDoorPl
namespace Go.Proofs.YtimbfadnabfabaaGreatDoor.Pm
set_option linter.unusedVariables false

structure cS (α:Type) where
 k:Nat
 enc:α→List PD
 len: ∀x,(enc x).length=k
def cS.cells{α:Type}(E:cS α):List α→List PD
 | []=> []
 | x::xs=>E.enc x++E.cells xs
def cS.row{α:Type}(E:cS α)(n:Nat)(f:Nat→α):List PV:=(E.cells ((List.range n).map f)).map .d
def cu(k:IntKind):cS Int:=⟨1,fun x=> [.int k x],fun _=>rfl⟩
def cH:cS UInt8:=⟨1,fun x=> [.int .u8 (x.toNat:Int)],fun _=>rfl⟩
def PT:cS Bool:=⟨1,fun x=> [.bool x],fun _=>rfl⟩
def dN:cS (List UInt8):=⟨1,fun x=> [.str x],fun _=>rfl⟩
def ir{α:Type}(E:cS α):cS (List α):=⟨1,fun x=> [.sl x.length (E.cells x)],fun _=>rfl⟩
section
variable {α : Type} (E : cS α)
theorem cS.dH: ∀xs:List α,(E.cells xs).length=xs.length*E.k
 | []=>by simp [cS.cells]
 | x::xs=>by simp [cS.cells,E.len,cS.dH xs,Nat.succ_mul,Nat.add_comm]
theorem cS.ow: ∀xs ys:List α,E.cells (xs++ys)=E.cells xs++E.cells ys
 | [],_=>rfl
 | x::xs,ys=>by simp [cS.cells,cS.ow xs ys]
theorem cS.kJ: ∀(xs:List α) (n:Nat),(E.cells xs).drop (n*E.k)=E.cells (xs.drop n)
 | xs,0=>by simp
 | [],n+1=>by simp [cS.cells]
 | x::xs,n+1=>by
  rw [List.drop_succ_cons,←cS.kJ xs n]
  simp only [cS.cells]
  rw [show (n+1)*E.k=(E.enc x).length+n*E.k by rw [E.len,Nat.succ_mul,Nat.add_comm],List.drop_append]
  simp
theorem cS.kK: ∀(xs:List α) (n:Nat),(E.cells xs).take (n*E.k)=E.cells (xs.take n)
 | xs,0=>by simp [cS.cells]
 | [],n+1=>by simp [cS.cells]
 | x::xs,n+1=>by
  rw [List.take_succ_cons]
  simp only [cS.cells]
  rw [←cS.kK xs n,show (n+1)*E.k=(E.enc x).length+n*E.k by rw [E.len,Nat.succ_mul,Nat.add_comm],List.take_append]
  simp
  exact (List.take_of_length_le (by rw [E.len];omega))
theorem cS.mC{xs:List α}{n:Nat}{y:α}(h:xs[n]?=some y):E.cells xs=E.cells (xs.take n)++(E.enc y++E.cells (xs.drop (n+1))):=by
 obtain ⟨hl,rfl⟩:=List.getElem?_eq_some_iff.1 h
 have:xs=xs.take n++(xs[n]::xs.drop (n+1)):=by rw [←List.drop_eq_getElem_cons hl,List.take_append_drop]
 conv=>lhs;rw [this]
 rw [cS.ow];rfl
theorem cS.JI{xs:List α}{n:Nat}{y z:α}(h:xs[n]?=some y):E.cells (xs.set n z)=E.cells (xs.take n)++(E.enc z++E.cells (xs.drop (n+1))):=by
 obtain ⟨hl,rfl⟩:=List.getElem?_eq_some_iff.1 h
 rw [cS.mC E (n:=n) (y:=z) (by simp [hl])]
 simp [List.take_set_of_le,List.drop_set_of_lt]
end
def idx{α:Type}(xs:List α)(j:Int):Option α:=if 0≤j then xs[j.toNat]? else none
def jO(j:Int)(n:Nat):Option Nat:=if 0≤j∧j<n then some j.toNat else none
def qL{α:Type}(xs:List α)(lo hi:Int):Option (List α):=if 0≤lo∧lo≤hi∧hi≤xs.length then some ((xs.take hi.toNat).drop lo.toNat) else none
def eP{α:Type}(b:Nat)(xs ys:List α):Option (List α):=if (xs.length+ys.length)*b≤140737488355328 then some (xs++ys) else none
def ep(xs ys:List UInt8):Option (List UInt8):=if ((xs.length+ys.length:Nat):Int)≤IntKind.i64.max then some (xs++ys) else none
def bU(b:Bool):Option Unit:=if b=true then some () else none
theorem bind_some{α β:Type}{o:Option α}{f:α→Option β}{r:β}(h:o.bind f=some r): ∃x,o=some x∧f x=some r:=by
 cases o with
 | none=>cases h
 | some x=>exact ⟨x,rfl,h⟩
theorem aq{α β:Type}{o:Option α}{f:α→Option β}{r:β}{P:Prop}(h:o.bind f=some r)(K: ∀x,o=some x→f x=some r→P):P:=by
 obtain ⟨x,h1,h2⟩:=bind_some h
 exact K x h1 h2
theorem dW{α:Type}{F:α→PX→St→Prop}{Q:PX→St→Prop}{X r:α}{e:PX}{st:St}(hS:some X=some r)(hQ: ∀e bl,F r e bl→Q e bl)(h:F X e st):Q e st:=by
 cases hS;exact hQ _ _ h
theorem Aq{α:Type}{c:Bool}{a b r:α}(hc:c=true)(h:(bif c then a else b)=r):a=r:=by subst hc;exact h
theorem Ar{α:Type}{c:Bool}{a b r:α}(hc:c=false)(h:(bif c then a else b)=r):b=r:=by subst hc;exact h
theorem gZ{b:Bool}{u:Unit}(h:bU b=some u):b=true:=by
 unfold bU at h;split at h
 ·assumption
 ·cases h

def rV{σ ρ:Type}(body:σ→Option (σ⊕ρ)):Nat→σ→Option ρ
 | 0,_=>none
 | n+1,x=>match body x with
  | none=>none
  | some (.inl y)=>rV body n y
  | some (.inr r)=>some r
theorem yT{σ ρ:Type}{body:σ→Option (σ⊕ρ)}: ∀{n m:Nat} {x:σ} {r:ρ},n≤m→rV body n x=some r→rV body m x=some r
 | 0,_,_,_,_,h=>by cases h
 | n+1,0,_,_,hl,_=>by omega
 | n+1,m+1,x,r,hl,h=>by
  simp only [rV] at h ⊢
  split at h
  ·cases h
  ·exact yT (by omega) h
  ·exact h
open Classical in
noncomputable def b9{σ ρ:Type}(body:σ→Option (σ⊕ρ))(x:σ):Option ρ:=if h: ∃n r,rV body n x=some r then some h.choose_spec.choose else none
theorem NM{σ ρ:Type}{body:σ→Option (σ⊕ρ)}{x:σ}{n:Nat}{r:ρ}(h:rV body n x=some r):b9 body x=some r:=by
 have hx: ∃n r,rV body n x=some r:=⟨n,r,h⟩
 unfold b9
 rw [dif_pos hx]
 have h2:=hx.choose_spec.choose_spec
 have a:=yT (Nat.le_max_left n hx.choose) h
 have b:=yT (Nat.le_max_right n hx.choose) h2
 rw [a] at b
 exact b.symm
theorem NN{σ ρ:Type}{body:σ→Option (σ⊕ρ)}{x:σ}{r:ρ}(h:b9 body x=some r): ∃n,rV body n x=some r:=by
 unfold b9 at h
 split at h
 ·rename_i hx
  refine ⟨hx.choose,?_⟩
  rw [hx.choose_spec.choose_spec];exact h
 ·cases h
theorem dK{σ ρ:Type}{body:σ→Option (σ⊕ρ)}{x:σ}{r:ρ}(h:body x=some (.inr r)):b9 body x=some r:=NM (n:=1) (by simp [rV,h])
theorem fM{σ ρ:Type}{body:σ→Option (σ⊕ρ)}{x y:σ}{r:ρ}(h:body x=some (.inl y))(h2:b9 body y=some r):b9 body x=some r:=by
 obtain ⟨n,hn⟩:=NN h2
 exact NM (n:=n+1) (by simp [rV,h,hn])

section
variable {γ : dZ} {Q : PX → St → Prop} {k : List It} {st : St} {p : List PO} {gy : List (Nat × Nat)} {acc : List (List (Nat × Bool))}
theorem aCS{a b:ak}(h:R γ Q a (.seq b::k) st):R γ Q (.seq a b) k st:=by rw [azC];exact h
theorem aCT{id:Nat}{c:ak}(h:R γ Q c (.blk id::k) st):R γ Q (.block id c) k st:=by rw [ajK];exact h
theorem azE(h:gq γ Q k .normal st):R γ Q .skip k st:=by rw [as8];exact h
theorem azF{i:Nat}(h:gq γ Q k (.exit i) st):R γ Q (.exit i) k st:=by rw [as9];exact h
theorem aCU(h:gq γ Q k .ret st):R γ Q .ret k st:=by rw [azB];exact h
theorem azG{L:List Nat}{B:List (Nat×Loc)}{A:List NA}{c:ak}{J:St}(e:au L B A st=J)(h:R γ Q c k J):R γ Q (.keep L B A c) k st:=by rw [as_,e];exact h
theorem atc{c:Operand}{t e:ak}(hc:(b8 st.s c).bool?=some true)(h:R γ Q t k st):R γ Q (.cond c t e) k st:=by rw [Z2,hc];exact h
theorem atd{c:Operand}{t e:ak}(hc:(b8 st.s c).bool?=some false)(h:R γ Q e k st):R γ Q (.cond c t e) k st:=by rw [Z2,hc];exact h
theorem aCV{b:ak}(h:R γ Q b k st):gq γ Q (.seq b::k) .normal st:=h
theorem azH{b:ak}{i:Nat}(h:gq γ Q k (.exit i) st):gq γ Q (.seq b::k) (.exit i) st:=h
theorem azI{b:ak}(h:gq γ Q k .ret st):gq γ Q (.seq b::k) .ret st:=h
theorem aCW{id:Nat}(h:gq γ Q k .normal st):gq γ Q (.blk id::k) .normal st:=h
theorem azJ{id:Nat}(h:gq γ Q k .normal st):gq γ Q (.blk id::k) (.exit id) st:=by rw [Ig,if_pos rfl];exact h
theorem azK{id i:Nat}(hne:Nat.beq i id=false)(h:gq γ Q k (.exit i) st):gq γ Q (.blk id::k) (.exit i) st:=by rw [Ig,if_neg (by intro e;subst e;simp at hne)];exact h
theorem azL{id:Nat}(h:gq γ Q k .ret st):gq γ Q (.blk id::k) .ret st:=h
theorem aCX{e:PX}(h:Q e st):gq γ Q [] e st:=by rw [PS];exact h
theorem Ih{c:ak}(h:R γ Q c (.seq (.loop c)::k) st):R γ Q (.loop c) k st:=by
 obtain ⟨n,e,iJ,h1,q⟩:=h
 cases e with
 | normal=>
  obtain ⟨n2,e2,jD,h2,q⟩:=q
  refine ⟨max n n2+1,e2,jD,?_,q⟩
  simp only [prun] at h2 ⊢
  simp only [iter,fq (show n≤max n n2+1 by omega) _ _ _ h1]
  exact CD (fun st r=>fq (show n2≤max n n2+1 by omega) c st r) n2 _ _ _ (by omega) h2
 | exit i=>exact ⟨n+1,_,iJ,by simp only [prun,iter,fq (Nat.le_succ n) _ _ _ h1],q⟩
 | ret=>exact ⟨n+1,_,iJ,by simp only [prun,iter,fq (Nat.le_succ n) _ _ _ h1],q⟩
def bG{σ ρ:Type}(H:σ→St→Prop)(X:ρ→PX→St→Prop):σ⊕ρ→PX→St→Prop
 | .inl y,e,st=>e= .normal∧H y st
 | .inr z,e,st=>e≠ .normal∧X z e st
theorem ate{σ ρ:Type}{H:σ→St→Prop}{X:ρ→PX→St→Prop}{y:σ}{st:St}(h:H y st):bG H X (.inl y) .normal st:=⟨rfl,h⟩
theorem PU{σ ρ:Type}{H:σ→St→Prop}{X:ρ→PX→St→Prop}{z:ρ}{e:PX}{st:St}(hne:e≠ .normal)(h:X z e st):bG H X (.inr z) e st:=⟨hne,h⟩
theorem azM{σ ρ:Type}{body:σ→Option (σ⊕ρ)}{c:ak}(H:σ→St→Prop)(X:ρ→PX→St→Prop)
  (hb: ∀x st r (Q':PX→St→Prop),H x st→body x=some r→(∀e bl,bG H X r e bl→Q' e bl)→R γ Q' c [] st)
  {x:σ} {z:ρ} (h0:H x st) (hS:b9 body x=some z) (hk: ∀e bl,e≠ .normal→X z e bl→gq γ Q k e bl):R γ Q (.loop c) k st:=by
 obtain ⟨n,hn⟩:=NN hS
 clear hS
 induction n generalizing x st with
 | zero=>cases hn
 | succ n ih=>
  simp only [rV] at hn
  split at hn
  ·cases hn
  ·rename_i y hy
   have h1:=hb x st _ (fun e bl=>match e with
    | .normal=>H y bl
    | _=>False) h0 hy (fun e bl h=>by obtain ⟨rfl,h⟩:=h;exact h)
   obtain ⟨m,e,iJ,h1,q⟩:=h1
   rw [PS] at q
   cases e with
   | normal=>exact Ih ⟨m,.normal,iJ,h1,ih q hn⟩
   | exit i=>exact q.elim
   | ret=>exact q.elim
  ·rename_i r hr
   cases hn
   have h1:=hb x st _ (fun e bl=>match e with
    | .normal=>False
    | e=>X z e bl) h0 hr (fun e bl h=>by
     obtain ⟨hne,hX⟩:=h
     cases e with
     | normal=>exact absurd rfl hne
     | exit=>exact hX
     | ret=>exact hX)
   obtain ⟨m,e,iJ,h1,q⟩:=h1
   rw [PS] at q
   cases e with
   | normal=>exact q.elim
   | exit i=>exact Ih ⟨m,.exit i,iJ,h1,hk _ _ (by simp) q⟩
   | ret=>exact Ih ⟨m,.ret,iJ,h1,hk _ _ (by simp) q⟩

-- statements
def PW(o:Option (List Out×St)):St:=match o with | some x=>x.2 | none=>⟨fun _=> .un,fun _=>⟨0,none⟩⟩
def tcD(o:Option (List Out×St)):List (List (Nat×Bool)):=match o with | some x=>x.1.map (·.tc) | none=> []
def aCY(d:Option Nat)(v:PV)(s:Nat→PV):Nat→PV:=match d with | some d=>up s d v | none=>s
def xY(st:St)(d:Option Nat)(v:PV)(aD:eu):St:=⟨aCY d v st.s,eJ st.h aD⟩
def iR(st:St)(d:Nat)(b:Bool):St:=⟨up st.s d (.d (.bool b)),st.h⟩
def Wx(st:St)(d:Option Nat)(op:kA):List (Nat×Bool):=bY (b8 st.s) st.h (d.getD 0) op
theorem Z6: ∀(l r:List PO) (acc:List (List (Nat×Bool))) (st:St),(gp γ l st).isSome=true→RD γ Q gy k (acc++tcD (gp γ l st)) r (PW (gp γ l st))→RD γ Q gy k acc (l++r) st
 | [],r,acc,st,_,h=>by simpa [gp,PW,tcD] using h
 | o::l,r,acc,st,h1,h=>by
  simp only [gp] at h1 h
  simp only [List.cons_append,RD]
  cases hx:iV γ o st with
  | none=>rw [hx] at h1;cases h1
  | some x=>
   rw [hx] at h1 h
   simp only at h1 h ⊢
   cases hy:gp γ l (apply x st) with
   | none=>rw [hy] at h1;cases h1
   | some y=>
    obtain ⟨a,b⟩:=y
    rw [hy] at h
    refine Z6 l r _ _ (by rw [hy];rfl) ?_
    rw [hy]
    simpa [PW,tcD] using h
theorem axY{i n j:Nat}{ts lz:List (List (Nat×Bool))}(hj:i+n=j)(h1:(gp γ ((p.drop i).take n) st).isSome=true)(ht:tcD (gp γ ((p.drop i).take n) st)=ts)(ha:acc++ts=lz)
  (h:RD γ Q gy k lz (p.drop j) (PW (gp γ ((p.drop i).take n) st))):RD γ Q gy k acc (p.drop i) st:=by
 have e:p.drop i=(p.drop i).take n++p.drop j:=by rw [←hj,←List.drop_drop,List.take_append_drop]
 rw [e]
 exact Z6 _ _ _ _ h1 (by rw [ht,ha];exact h)
theorem axZ{i:Nat}(h0:p.drop i= [])(ha:(gy.all fun x=>apart (acc.getD x.1 []) (acc.getD x.2 []))=true)(h:gq γ Q k .normal st):RD γ Q gy k acc (p.drop i) st:=by
 rw [h0];exact ⟨ha,h⟩
def wI(s:Nat→PV):Option (Nat×Bool)→Bool
 | none=>true
 | some (t,b)=>match (s t).PC with | some c=>(if c=some b then true else false) | none=>false
theorem dOp{i j:Nat}{d:Option Nat}{op:kA}{g:Option (Nat×Bool)}{v:PV}{aD:eu}{t1:List (Nat×Bool)}{lz:List (List (Nat×Bool))}(SN:Wx st d op=t1)(ha:acc++ [t1]=lz)(hj:i+1=j)(hp:(p.drop i).take 1= [⟨d,op,g⟩])(hg:wI st.s g=true)
  (h1:az γ st.h (d.getD 0) (b8 st.s) op=some (v,aD))
  (h:RD γ Q gy k lz (p.drop j) (xY st d v aD)):RD γ Q gy k acc (p.drop i) st:=by
 subst SN ha
 have hx:iV γ ⟨d,op,g⟩ st=some ⟨d,v,aD,bY (b8 st.s) st.h (d.getD 0) op⟩:=by
  cases g with
  | none=>simp only [iV,h1]
  | some q=>
   obtain ⟨t,b⟩:=q
   simp only [wI] at hg
   simp only [iV]
   split at hg
   ·rename_i c hc
    split at hg
    ·rename_i hcb;rw [hc];simp only [if_pos hcb,h1]
    ·cases hg
   ·cases hg
 have e:p.drop i=⟨d,op,g⟩::p.drop j:=by
  conv=>lhs;rw [←List.take_append_drop 1 (p.drop i),hp,List.drop_drop,hj]
  rfl
 rw [e]
 simp only [RD,hx]
 exact h
theorem ajN{i j d:Nat}(c:Bool){op:kA}{t1:List (Nat×Bool)}{lz:List (List (Nat×Bool))}(SN:Wx st (some d) op=t1)(ha:acc++ [t1]=lz)(hj:i+1=j){g:Option (Nat×Bool)}(hp:(p.drop i).take 1= [⟨some d,op,g⟩])(hg:wI st.s g=true)
  (h1:az γ st.h d (b8 st.s) op=some (.d (.bool c),[]))
  (ht:c=true→RD γ Q gy k lz (p.drop j) (iR st d true)) (hf:c=false→RD γ Q gy k lz (p.drop j) (iR st d false)):RD γ Q gy k acc (p.drop i) st:=by
 refine dOp (v:= .d (.bool c)) SN ha hj hp hg h1 ?_
 cases c with
 | true=>exact ht rfl
 | false=>exact hf rfl
theorem PY(s:Nat→PV)(t:Nat){v:PV}(h:s t=v):up s t v=s:=by
 funext x
 by_cases e:x=t
 ·subst e;rw [aR,h]
 ·rw [dM _ _ _ _ e]
theorem atf{l:List PO}(t:Nat)(c:Bool)(h1:st.s t= .d (.bool c))(ht:c=true→RD γ Q gy k acc l (iR st t true))(hf:c=false→RD γ Q gy k acc l (iR st t false)):RD γ Q gy k acc l st:=by
 obtain ⟨s,h⟩:=st
 cases c with
 | true=>have:=ht rfl;rw [iR,PY _ _ h1] at this;exact this
 | false=>have:=hf rfl;rw [iR,PY _ _ h1] at this;exact this
theorem atg{c0:ak}(t:Nat)(c:Bool)(h1:st.s t= .d (.bool c))(ht:c=true→R γ Q c0 k (iR st t true))(hf:c=false→R γ Q c0 k (iR st t false)):R γ Q c0 k st:=by
 obtain ⟨s,h⟩:=st
 cases c with
 | true=>have:=ht rfl;rw [iR,PY _ _ h1] at this;exact this
 | false=>have:=hf rfl;rw [iR,PY _ _ h1] at this;exact this
theorem azO(h:RD γ Q gy k [] (p.drop 0) st):R γ Q (.cU p gy) k st:=by rw [Z4];exact h
def RL(γ:dZ)(Q:PX→St→Prop)(k:List It)(l:List PO)(st:St):Prop:=RD γ Q [] k [] l st
theorem DF: ∀(l:List PO) (acc lz:List (List (Nat×Bool))) (st:St),RD γ Q [] k acc l st→RD γ Q [] k lz l st
 | [],_,_,_,h=>⟨rfl,h.2⟩
 | o::l,acc,lz,st,h=>by
  simp only [RD] at h ⊢
  split at h
  ·exact DF l _ _ _ h
  ·exact h
theorem aCZ(h:RL γ Q k (p.drop 0) st):R γ Q (.ai p) k st:=by rw [←ajL,Z4];exact h
theorem aC0{i n j:Nat}(hj:i+n=j)(h1:(gp γ ((p.drop i).take n) st).isSome=true)(h:RL γ Q k (p.drop j) (PW (gp γ ((p.drop i).take n) st))):RL γ Q k (p.drop i) st:=axY hj h1 rfl rfl (DF _ _ _ _ h)
theorem aC1{i:Nat}(h0:p.drop i= [])(h:gq γ Q k .normal st):RL γ Q k (p.drop i) st:=axZ h0 rfl h
theorem lOp{i j:Nat}{d:Option Nat}{op:kA}{g:Option (Nat×Bool)}{v:PV}{aD:eu}(hj:i+1=j)(hp:(p.drop i).take 1= [⟨d,op,g⟩])(hg:wI st.s g=true)
  (h1:az γ st.h (d.getD 0) (b8 st.s) op=some (v,aD)) (h:RL γ Q k (p.drop j) (xY st d v aD)):RL γ Q k (p.drop i) st:=dOp rfl rfl hj hp hg h1 (DF _ _ _ _ h)
theorem azP{i j d:Nat}(c:Bool)(hj:i+1=j){g:Option (Nat×Bool)}{op:kA}(hp:(p.drop i).take 1= [⟨some d,op,g⟩])(hg:wI st.s g=true)
  (h1:az γ st.h d (b8 st.s) op=some (.d (.bool c),[]))
  (ht:c=true→RL γ Q k (p.drop j) (iR st d true)) (hf:c=false→RL γ Q k (p.drop j) (iR st d false)):RL γ Q k (p.drop i) st:=ajN c rfl rfl hj hp hg h1 (fun h=>DF _ _ _ _ (ht h)) (fun h=>DF _ _ _ _ (hf h))
theorem ath{l:List PO}(t:Nat)(c:Bool)(h1:st.s t= .d (.bool c))(ht:c=true→RL γ Q k l (iR st t true))(hf:c=false→RL γ Q k l (iR st t false)):RL γ Q k l st:=atf t c h1 ht hf
theorem Z7{fx:Bool}{m:Nat}{rs:List PR}{r:PV×List bM}(hx:fx=false)(h:cN st m rs=some r):yN fx st m rs=some r:=by subst hx;exact h
theorem ati{fx:Bool}{m:Nat}{rs:List PR}{r:PV}{bs:List bM}(hx:fx=true)(hg:JC st.h m=true)(h:cN st m rs=some (r,bs)):yN fx st m rs=some (r,bs++ [.box []]):=by
 subst hx
 simp only [yN,h]
 rw [if_pos hg]
theorem je{m:Nat}{fc:aK}{r:PV×List bM}(hx:Md fc.fin=false)(h:cN (dV fc.fin st) m fc.res=some r):aU fc m r .ret st:=Z7 hx h
theorem ajO{m:Nat}{fc:aK}{r:PV×List bM}(hx:Md fc.fin=false)(h:cN (dV fc.fin st) m fc.res=some r):aU fc m r .normal st:=Z7 hx h
theorem azQ{m:Nat}{fc:aK}{s:St}{r:PV}{bs:List bM}(hx:Md fc.fin=true)(he:dV fc.fin st=s)(hg:JC s.h m=true)(h:cN s m fc.res=some (r,bs)):aU fc m (r,bs++ [.box []]) .ret st:=by
 subst he;exact ati hx hg h
-- the same, told by structures (what is to be shown is not unfolded)
structure ZR (γ:dZ) (Q:PX→St→Prop) (c:ak) (k:List It) (st:St):Prop where
 out:R γ Q c k st
structure ZK (γ:dZ) (Q:PX→St→Prop) (k:List It) (e:PX) (st:St):Prop where
 out:gq γ Q k e st
structure ZL (γ:dZ) (Q:PX→St→Prop) (k:List It) (l:List PO) (st:St):Prop where
 out:RL γ Q k l st
structure ZD (γ:dZ) (Q:PX→St→Prop) (gy:List (Nat×Nat)) (k:List It) (acc:List (List (Nat×Bool))) (l:List PO) (st:St):Prop where
 out:RD γ Q gy k acc l st
theorem aC{a b:ak}(h:ZR γ Q a (.seq b::k) st):ZR γ Q (.seq a b) k st:=⟨aCS h.out⟩
theorem bw{id:Nat}{c:ak}(h:ZR γ Q c (.blk id::k) st):ZR γ Q (.block id c) k st:=⟨aCT h.out⟩
theorem fV(h:ZK γ Q k .normal st):ZR γ Q .skip k st:=⟨azE h.out⟩
theorem cX{i:Nat}(h:ZK γ Q k (.exit i) st):ZR γ Q (.exit i) k st:=⟨azF h.out⟩
theorem cL(h:ZK γ Q k .ret st):ZR γ Q .ret k st:=⟨aCU h.out⟩
theorem av{L:List Nat}{B:List (Nat×Loc)}{A:List NA}{c:ak}{J:St}(e:au L B A st=J)(h:ZR γ Q c k J):ZR γ Q (.keep L B A c) k st:=⟨azG e h.out⟩
theorem SP{c:Operand}{t e:ak}(hc:(b8 st.s c).bool?=some true)(h:ZR γ Q t k st):ZR γ Q (.cond c t e) k st:=⟨atc hc h.out⟩
theorem SQ{c:Operand}{t e:ak}(hc:(b8 st.s c).bool?=some false)(h:ZR γ Q e k st):ZR γ Q (.cond c t e) k st:=⟨atd hc h.out⟩
theorem cq{b:ak}(h:ZR γ Q b k st):ZK γ Q (.seq b::k) .normal st:=⟨aCV h.out⟩
theorem cV{b:ak}{i:Nat}(h:ZK γ Q k (.exit i) st):ZK γ Q (.seq b::k) (.exit i) st:=⟨azH h.out⟩
theorem bQ{b:ak}(h:ZK γ Q k .ret st):ZK γ Q (.seq b::k) .ret st:=⟨azI h.out⟩
theorem rW{id:Nat}(h:ZK γ Q k .normal st):ZK γ Q (.blk id::k) .normal st:=⟨aCW h.out⟩
theorem kq{id:Nat}(h:ZK γ Q k .normal st):ZK γ Q (.blk id::k) (.exit id) st:=⟨azJ h.out⟩
theorem Z8{id i:Nat}(hne:Nat.beq i id=false)(h:ZK γ Q k (.exit i) st):ZK γ Q (.blk id::k) (.exit i) st:=⟨azK hne h.out⟩
theorem cj{id:Nat}(h:ZK γ Q k .ret st):ZK γ Q (.blk id::k) .ret st:=⟨azL h.out⟩
theorem bg{e:PX}(h:Q e st):ZK γ Q [] e st:=⟨aCX h⟩
theorem ajP{c:ak}(h:ZR γ Q c (.seq (.loop c)::k) st):ZR γ Q (.loop c) k st:=⟨Ih h.out⟩
theorem dF{σ ρ:Type}{body:σ→Option (σ⊕ρ)}{c:ak}(H:σ→St→Prop)(X:ρ→PX→St→Prop)
  (hb: ∀x st r (Q':PX→St→Prop),H x st→body x=some r→(∀e bl,bG H X r e bl→Q' e bl)→ZR γ Q' c [] st)
  {x:σ} {z:ρ} (h0:H x st) (hS:b9 body x=some z) (hk: ∀e bl,e≠ .normal→X z e bl→ZK γ Q k e bl):ZR γ Q (.loop c) k st:=
 ⟨azM H X (fun x st r Q' a b c=>(hb x st r Q' a b c).out) h0 hS fun e bl a b=>(hk e bl a b).out⟩
theorem cG(h:ZD γ Q gy k [] (p.drop 0) st):ZR γ Q (.cU p gy) k st:=⟨azO h.out⟩
theorem a_(h:ZL γ Q k (p.drop 0) st):ZR γ Q (.ai p) k st:=⟨aCZ h.out⟩
theorem ajQ{c0:ak}(t:Nat)(c:Bool)(h1:st.s t= .d (.bool c))(ht:c=true→ZR γ Q c0 k (iR st t true))(hf:c=false→ZR γ Q c0 k (iR st t false)):ZR γ Q c0 k st:=⟨atg t c h1 (fun h=>(ht h).out) fun h=>(hf h).out⟩
theorem ajR{i n j:Nat}{ts lz:List (List (Nat×Bool))}(hj:i+n=j)(h1:(gp γ ((p.drop i).take n) st).isSome=true)(ht:tcD (gp γ ((p.drop i).take n) st)=ts)(ha:acc++ts=lz)
  (h:ZD γ Q gy k lz (p.drop j) (PW (gp γ ((p.drop i).take n) st))):ZD γ Q gy k acc (p.drop i) st:=⟨axY hj h1 ht ha h.out⟩
theorem ajS{i:Nat}(h0:p.drop i= [])(ha:(gy.all fun x=>apart (acc.getD x.1 []) (acc.getD x.2 []))=true)(h:ZK γ Q k .normal st):ZD γ Q gy k acc (p.drop i) st:=⟨axZ h0 ha h.out⟩
theorem aC2{i j:Nat}{d:Option Nat}{op:kA}{g:Option (Nat×Bool)}{v:PV}{aD:eu}{t1:List (Nat×Bool)}{lz:List (List (Nat×Bool))}(SN:Wx st d op=t1)(ha:acc++ [t1]=lz)(hj:i+1=j)(hp:(p.drop i).take 1= [⟨d,op,g⟩])(hg:wI st.s g=true)
  (h1:az γ st.h (d.getD 0) (b8 st.s) op=some (v,aD)) (h:ZD γ Q gy k lz (p.drop j) (xY st d v aD)):ZD γ Q gy k acc (p.drop i) st:=⟨dOp SN ha hj hp hg h1 h.out⟩
theorem atj{i j d:Nat}(c:Bool){op:kA}{t1:List (Nat×Bool)}{lz:List (List (Nat×Bool))}(SN:Wx st (some d) op=t1)(ha:acc++ [t1]=lz)(hj:i+1=j){g:Option (Nat×Bool)}(hp:(p.drop i).take 1= [⟨some d,op,g⟩])(hg:wI st.s g=true)
  (h1:az γ st.h d (b8 st.s) op=some (.d (.bool c),[]))
  (ht:c=true→ZD γ Q gy k lz (p.drop j) (iR st d true)) (hf:c=false→ZD γ Q gy k lz (p.drop j) (iR st d false)):ZD γ Q gy k acc (p.drop i) st:=⟨ajN c SN ha hj hp hg h1 (fun h=>(ht h).out) fun h=>(hf h).out⟩
theorem ajT{i n j:Nat}(hj:i+n=j)(h1:(gp γ ((p.drop i).take n) st).isSome=true)(h:ZL γ Q k (p.drop j) (PW (gp γ ((p.drop i).take n) st))):ZL γ Q k (p.drop i) st:=⟨aC0 hj h1 h.out⟩
theorem ajU{i:Nat}(h0:p.drop i= [])(h:ZK γ Q k .normal st):ZL γ Q k (p.drop i) st:=⟨aC1 h0 h.out⟩
theorem SR{i j:Nat}{d:Option Nat}{op:kA}{g:Option (Nat×Bool)}{v:PV}{aD:eu}(hj:i+1=j)(hp:(p.drop i).take 1= [⟨d,op,g⟩])(hg:wI st.s g=true)
  (h1:az γ st.h (d.getD 0) (b8 st.s) op=some (v,aD)) (h:ZL γ Q k (p.drop j) (xY st d v aD)):ZL γ Q k (p.drop i) st:=⟨lOp hj hp hg h1 h.out⟩
theorem Z9{i j d:Nat}(c:Bool)(hj:i+1=j){g:Option (Nat×Bool)}{op:kA}(hp:(p.drop i).take 1= [⟨some d,op,g⟩])(hg:wI st.s g=true)
  (h1:az γ st.h d (b8 st.s) op=some (.d (.bool c),[]))
  (ht:c=true→ZL γ Q k (p.drop j) (iR st d true)) (hf:c=false→ZL γ Q k (p.drop j) (iR st d false)):ZL γ Q k (p.drop i) st:=⟨azP c hj hp hg h1 (fun h=>(ht h).out) fun h=>(hf h).out⟩
theorem ajV{l:List PO}(t:Nat)(c:Bool)(h1:st.s t= .d (.bool c))(ht:c=true→ZL γ Q k l (iR st t true))(hf:c=false→ZL γ Q k l (iR st t false)):ZL γ Q k l st:=⟨ath t c h1 (fun h=>(ht h).out) fun h=>(hf h).out⟩
theorem atk{ay:Nat→Option aK}{base:dZ}{d f:Nat}{fc:aK}{args:List PV}{bs:List bM}{r:PV×List bM}(hc:ay f=some fc)(hz:fc.z=false)(hl:Nat.ble args.length fc.N=true)(hd:1≤d)
  (h: ∀Q:PX→St→Prop,(∀e bl,aU fc bs.length r e bl→Q e bl)→ZR (bZ ay base (d-1)) Q fc.body [] (tC args bs)):bZ ay base d f args bs=some r:=
 ata hc hz (Nat.le_of_ble_eq_true hl) hd (h _ fun _ _ h=>h).out
theorem JJ{ay:Nat→Option aK}{base:dZ}{d f m:Nat}{fc:aK}{cs:List PD}{ar:List PV}{bs:List bM}{r:PV×List bM}(hc:ay f=some fc)(hz:fc.z=true)(hl:Nat.ble (ar.length+1) fc.N=true)(hd:1≤d)
  (h1: ∀Q:PX→St→Prop,(∀e bl,aU fc bs.length r e bl→Q e bl)→ZR (bZ ay base (d-1)) Q fc.body [] (tC (.jv false m cs::ar) bs))
  (h2:m=0→ ∀Q:PX→St→Prop,(∀e bl,aU fc bs.length r e bl→Q e bl)→ZR (bZ ay base (d-1)) Q fc.body [] (tC (.jv true 0 []::ar) bs)):bZ ay base d f (.d (.sl m cs)::ar) bs=some r:=
 ajM hc hz (Nat.le_of_ble_eq_true hl) hd (h1 _ fun _ _ h=>h).out fun hm=>(h2 hm _ fun _ _ h=>h).out
end
end Go.Proofs.YtimbfadnabfabaaGreatDoor.Pm
