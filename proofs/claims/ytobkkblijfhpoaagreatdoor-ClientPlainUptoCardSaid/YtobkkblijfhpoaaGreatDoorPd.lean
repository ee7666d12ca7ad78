/- The small machine: typed data, loops, and the rules by which a run is shown to be a typed function. No program is named here. -/
import Derived.Test.YtobkkblijfhpoaaGreatDoorPl
namespace Go.Proofs.YtobkkblijfhpoaaGreatDoor.Pm
set_option linter.unusedVariables false

structure dJ (α:Type) where
 k:Nat
 enc:α→List PD
 len: ∀x,(enc x).length=k
def dJ.cells{α:Type}(E:dJ α):List α→List PD
 | []=> []
 | x::xs=>E.enc x++E.cells xs
def dJ.row{α:Type}(E:dJ α)(n:Nat)(f:Nat→α):List PV:=(E.cells ((List.range n).map f)).map .d
def dR(k:IntKind):dJ Int:=⟨1,fun x=> [.int k x],fun _=>rfl⟩
def dM:dJ UInt8:=⟨1,fun x=> [.int .u8 (x.toNat:Int)],fun _=>rfl⟩
def eu:dJ (List UInt8):=⟨1,fun x=> [.str x],fun _=>rfl⟩
def d_{α:Type}(E:dJ α):dJ (List α):=⟨1,fun x=> [.sl x.length (E.cells x)],fun _=>rfl⟩
section
variable {α : Type} (E : dJ α)
theorem dJ.dU: ∀xs:List α,(E.cells xs).length=xs.length*E.k
 | []=>by simp [dJ.cells]
 | x::xs=>by simp [dJ.cells,E.len,dJ.dU xs,Nat.succ_mul,Nat.add_comm]
theorem dJ.l9: ∀xs ys:List α,E.cells (xs++ys)=E.cells xs++E.cells ys
 | [],_=>rfl
 | x::xs,ys=>by simp [dJ.cells,dJ.l9 xs ys]
theorem dJ.gi: ∀(xs:List α) (n:Nat),(E.cells xs).drop (n*E.k)=E.cells (xs.drop n)
 | xs,0=>by simp
 | [],n+1=>by simp [dJ.cells]
 | x::xs,n+1=>by
  rw [List.drop_succ_cons,←dJ.gi xs n]
  simp only [dJ.cells]
  rw [show (n+1)*E.k=(E.enc x).length+n*E.k by rw [E.len,Nat.succ_mul,Nat.add_comm],List.drop_append]
  simp
theorem dJ.gX: ∀(xs:List α) (n:Nat),(E.cells xs).take (n*E.k)=E.cells (xs.take n)
 | xs,0=>by simp [dJ.cells]
 | [],n+1=>by simp [dJ.cells]
 | x::xs,n+1=>by
  rw [List.take_succ_cons]
  simp only [dJ.cells]
  rw [←dJ.gX xs n,show (n+1)*E.k=(E.enc x).length+n*E.k by rw [E.len,Nat.succ_mul,Nat.add_comm],List.take_append]
  simp
  exact (List.take_of_length_le (by rw [E.len];omega))
theorem dJ.nU{xs:List α}{n:Nat}{y:α}(h:xs[n]?=some y):E.cells xs=E.cells (xs.take n)++(E.enc y++E.cells (xs.drop (n+1))):=by
 obtain ⟨hl,rfl⟩:=List.getElem?_eq_some_iff.1 h
 have:xs=xs.take n++(xs[n]::xs.drop (n+1)):=by rw [←List.drop_eq_getElem_cons hl,List.take_append_drop]
 conv=>lhs;rw [this]
 rw [dJ.l9];rfl
theorem dJ.vV{xs:List α}{n:Nat}{y z:α}(h:xs[n]?=some y):E.cells (xs.set n z)=E.cells (xs.take n)++(E.enc z++E.cells (xs.drop (n+1))):=by
 obtain ⟨hl,rfl⟩:=List.getElem?_eq_some_iff.1 h
 rw [dJ.nU E (n:=n) (y:=z) (by simp [hl])]
 simp [List.take_set_of_le,List.drop_set_of_lt]
end
theorem OM: ∀s:List UInt8,(s.map fun b=>PD.int .u8 (b.toNat:Int))=dM.cells s
 | []=>rfl
 | x::s=>by simp [dJ.cells,dM,OM s]

def idx{α:Type}(xs:List α)(j:Int):Option α:=if 0≤j then xs[j.toNat]? else none
def iJ(j:Int)(n:Nat):Option Nat:=if 0≤j∧j<n then some j.toNat else none
def ni{α:Type}(xs:List α)(lo hi:Int):Option (List α):=if 0≤lo∧lo≤hi∧hi≤xs.length then some ((xs.take hi.toNat).drop lo.toNat) else none
def fT{α:Type}(b:Nat)(xs ys:List α):Option (List α):=if (xs.length+ys.length)*b≤140737488355328 then some (xs++ys) else none
def yA(xs ys:List UInt8):Option (List UInt8):=if ((xs.length+ys.length:Nat):Int)≤IntKind.i64.max then some (xs++ys) else none
def gz(b:Bool):Option Unit:=if b=true then some () else none
theorem bind_some{α β:Type}{o:Option α}{f:α→Option β}{r:β}(h:o.bind f=some r): ∃x,o=some x∧f x=some r:=by
 cases o with
 | none=>cases h
 | some x=>exact ⟨x,rfl,h⟩
theorem ak{α β:Type}{o:Option α}{f:α→Option β}{r:β}{P:Prop}(h:o.bind f=some r)(K: ∀x,o=some x→f x=some r→P):P:=by
 obtain ⟨x,h1,h2⟩:=bind_some h
 exact K x h1 h2
theorem aM{α:Type}{F:α→PX→St→Prop}{Q:PX→St→Prop}{X r:α}{e:PX}{st:St}(hS:some X=some r)(hQ: ∀e bX,F r e bX→Q e bX)(h:F X e st):Q e st:=by
 cases hS;exact hQ _ _ h
theorem kX{α:Type}{c:Bool}{a b r:α}(hc:c=true)(h:(bif c then a else b)=r):a=r:=by subst hc;exact h
theorem kY{α:Type}{c:Bool}{a b r:α}(hc:c=false)(h:(bif c then a else b)=r):b=r:=by subst hc;exact h
theorem gT{b:Bool}{u:Unit}(h:gz b=some u):b=true:=by
 unfold gz at h;split at h
 ·assumption
 ·cases h

def nV{σ ρ:Type}(body:σ→Option (σ⊕ρ)):Nat→σ→Option ρ
 | 0,_=>none
 | n+1,x=>match body x with
  | none=>none
  | some (.inl y)=>nV body n y
  | some (.inr r)=>some r
theorem yB{σ ρ:Type}{body:σ→Option (σ⊕ρ)}: ∀{n m:Nat} {x:σ} {r:ρ},n≤m→nV body n x=some r→nV body m x=some r
 | 0,_,_,_,_,h=>by cases h
 | n+1,0,_,_,hl,_=>by omega
 | n+1,m+1,x,r,hl,h=>by
  simp only [nV] at h ⊢
  split at h
  ·cases h
  ·exact yB (by omega) h
  ·exact h
open Classical in
noncomputable def bR{σ ρ:Type}(body:σ→Option (σ⊕ρ))(x:σ):Option ρ:=if h: ∃n r,nV body n x=some r then some h.choose_spec.choose else none
theorem kZ{σ ρ:Type}{body:σ→Option (σ⊕ρ)}{x:σ}{n:Nat}{r:ρ}(h:nV body n x=some r):bR body x=some r:=by
 have hx: ∃n r,nV body n x=some r:=⟨n,r,h⟩
 unfold bR
 rw [dif_pos hx]
 have h2:=hx.choose_spec.choose_spec
 have a:=yB (Nat.le_max_left n hx.choose) h
 have b:=yB (Nat.le_max_right n hx.choose) h2
 rw [a] at b
 exact b.symm
theorem OO{σ ρ:Type}{body:σ→Option (σ⊕ρ)}{x:σ}{r:ρ}(h:bR body x=some r): ∃n,nV body n x=some r:=by
 unfold bR at h
 split at h
 ·rename_i hx
  refine ⟨hx.choose,?_⟩
  rw [hx.choose_spec.choose_spec];exact h
 ·cases h
theorem eC{σ ρ:Type}{body:σ→Option (σ⊕ρ)}{x:σ}{r:ρ}(h:body x=some (.inr r)):bR body x=some r:=kZ (n:=1) (by simp [nV,h])
theorem gI{σ ρ:Type}{body:σ→Option (σ⊕ρ)}{x y:σ}{r:ρ}(h:body x=some (.inl y))(h2:bR body y=some r):bR body x=some r:=by
 obtain ⟨n,hn⟩:=OO h2
 exact kZ (n:=n+1) (by simp [nV,h,hn])

section
variable {γ : cX} {Q : PX → St → Prop} {k : List It} {st : St} {p : List PO} {fP : List (Nat × Nat)} {acc : List (List (Nat × Bool))}
theorem aAc{a b:aj}(h:R γ Q a (.seq b::k) st):R γ Q (.seq a b) k st:=by rw [axy];exact h
theorem aAd{id:Nat}{c:aj}(h:R γ Q c (.blk id::k) st):R γ Q (.block id c) k st:=by rw [aj9];exact h
theorem axA(h:gf γ Q k .normal st):R γ Q .skip k st:=by rw [asQ];exact h
theorem axB{i:Nat}(h:gf γ Q k (.exit i) st):R γ Q (.exit i) k st:=by rw [asR];exact h
theorem aAe(h:gf γ Q k .ret st):R γ Q .ret k st:=by rw [axx];exact h
theorem axC{L:List Nat}{B:List (Nat×Loc)}{A:List NA}{c:aj}{J:St}(e:aA L B A st=J)(h:R γ Q c k J):R γ Q (.keep L B A c) k st:=by rw [asS,e];exact h
theorem asV{c:Operand}{t e:aj}(hc:(cK st.s c).bool?=some true)(h:R γ Q t k st):R γ Q (.cond c t e) k st:=by rw [aaO,hc];exact h
theorem asW{c:Operand}{t e:aj}(hc:(cK st.s c).bool?=some false)(h:R γ Q e k st):R γ Q (.cond c t e) k st:=by rw [aaO,hc];exact h
theorem aAf{b:aj}(h:R γ Q b k st):gf γ Q (.seq b::k) .normal st:=h
theorem axD{b:aj}{i:Nat}(h:gf γ Q k (.exit i) st):gf γ Q (.seq b::k) (.exit i) st:=h
theorem axE{b:aj}(h:gf γ Q k .ret st):gf γ Q (.seq b::k) .ret st:=h
theorem aAg{id:Nat}(h:gf γ Q k .normal st):gf γ Q (.blk id::k) .normal st:=h
theorem axF{id:Nat}(h:gf γ Q k .normal st):gf γ Q (.blk id::k) (.exit id) st:=by rw [I2,if_pos rfl];exact h
theorem axG{id i:Nat}(hne:Nat.beq i id=false)(h:gf γ Q k (.exit i) st):gf γ Q (.blk id::k) (.exit i) st:=by rw [I2,if_neg (by intro e;subst e;simp at hne)];exact h
theorem axH{id:Nat}(h:gf γ Q k .ret st):gf γ Q (.blk id::k) .ret st:=h
theorem aAh{e:PX}(h:Q e st):gf γ Q [] e st:=by rw [Qy];exact h
theorem I3{c:aj}(h:R γ Q c (.seq (.loop c)::k) st):R γ Q (.loop c) k st:=by
 obtain ⟨n,e,g_,h1,q⟩:=h
 cases e with
 | normal=>
  obtain ⟨n2,e2,ji,h2,q⟩:=q
  refine ⟨max n n2+1,e2,ji,?_,q⟩
  simp only [prun] at h2 ⊢
  simp only [iter,fh (show n≤max n n2+1 by omega) _ _ _ h1]
  exact CL (fun st r=>fh (show n2≤max n n2+1 by omega) c st r) n2 _ _ _ (by omega) h2
 | exit i=>exact ⟨n+1,_,g_,by simp only [prun,iter,fh (Nat.le_succ n) _ _ _ h1],q⟩
 | ret=>exact ⟨n+1,_,g_,by simp only [prun,iter,fh (Nat.le_succ n) _ _ _ h1],q⟩
def bS{σ ρ:Type}(H:σ→St→Prop)(X:ρ→PX→St→Prop):σ⊕ρ→PX→St→Prop
 | .inl y,e,st=>e= .normal∧H y st
 | .inr z,e,st=>e≠ .normal∧X z e st
theorem aaS{σ ρ:Type}{H:σ→St→Prop}{X:ρ→PX→St→Prop}{y:σ}{st:St}(h:H y st):bS H X (.inl y) .normal st:=⟨rfl,h⟩
theorem Ax{σ ρ:Type}{H:σ→St→Prop}{X:ρ→PX→St→Prop}{z:ρ}{e:PX}{st:St}(hne:e≠ .normal)(h:X z e st):bS H X (.inr z) e st:=⟨hne,h⟩
theorem axI{σ ρ:Type}{body:σ→Option (σ⊕ρ)}{c:aj}(H:σ→St→Prop)(X:ρ→PX→St→Prop)
  (hb: ∀x st r (Q':PX→St→Prop),H x st→body x=some r→(∀e bX,bS H X r e bX→Q' e bX)→R γ Q' c [] st)
  {x:σ} {z:ρ} (h0:H x st) (hS:bR body x=some z) (hk: ∀e bX,e≠ .normal→X z e bX→gf γ Q k e bX):R γ Q (.loop c) k st:=by
 obtain ⟨n,hn⟩:=OO hS
 clear hS
 induction n generalizing x st with
 | zero=>cases hn
 | succ n ih=>
  simp only [nV] at hn
  split at hn
  ·cases hn
  ·rename_i y hy
   have h1:=hb x st _ (fun e bX=>match e with
    | .normal=>H y bX
    | _=>False) h0 hy (fun e bX h=>by obtain ⟨rfl,h⟩:=h;exact h)
   obtain ⟨m,e,g_,h1,q⟩:=h1
   rw [Qy] at q
   cases e with
   | normal=>exact I3 ⟨m,.normal,g_,h1,ih q hn⟩
   | exit i=>exact q.elim
   | ret=>exact q.elim
  ·rename_i r hr
   cases hn
   have h1:=hb x st _ (fun e bX=>match e with
    | .normal=>False
    | e=>X z e bX) h0 hr (fun e bX h=>by
     obtain ⟨hne,hX⟩:=h
     cases e with
     | normal=>exact absurd rfl hne
     | exit=>exact hX
     | ret=>exact hX)
   obtain ⟨m,e,g_,h1,q⟩:=h1
   rw [Qy] at q
   cases e with
   | normal=>exact q.elim
   | exit i=>exact I3 ⟨m,.exit i,g_,h1,hk _ _ (by simp) q⟩
   | ret=>exact I3 ⟨m,.ret,g_,h1,hk _ _ (by simp) q⟩

-- statements
def Kw(o:Option (List Out×St)):St:=match o with | some x=>x.2 | none=>⟨fun _=> .un,fun _=>⟨0,none⟩⟩
def XE(o:Option (List Out×St)):List (List (Nat×Bool)):=match o with | some x=>x.1.map (·.tc) | none=> []
def aAi(d:Option Nat)(v:PV)(s:Nat→PV):Nat→PV:=match d with | some d=>up s d v | none=>s
def BC(st:St)(d:Option Nat)(v:PV)(aH:eo):St:=⟨aAi d v st.s,eO st.h aH⟩
def fD(st:St)(d:Nat)(b:Bool):St:=⟨up st.s d (.d (.bool b)),st.h⟩
def Nf(st:St)(d:Option Nat)(op:gP):List (Nat×Bool):=cE (cK st.s) st.h (d.getD 0) op
theorem aaT: ∀(l r:List PO) (acc:List (List (Nat×Bool))) (st:St),(fS γ l st).isSome=true→RD γ Q fP k (acc++XE (fS γ l st)) r (Kw (fS γ l st))→RD γ Q fP k acc (l++r) st
 | [],r,acc,st,_,h=>by simpa [fS,Kw,XE] using h
 | o::l,r,acc,st,h1,h=>by
  simp only [fS] at h1 h
  simp only [List.cons_append,RD]
  cases hx:iB γ o st with
  | none=>rw [hx] at h1;cases h1
  | some x=>
   rw [hx] at h1 h
   simp only at h1 h ⊢
   cases hy:fS γ l (apply x st) with
   | none=>rw [hy] at h1;cases h1
   | some y=>
    obtain ⟨a,b⟩:=y
    rw [hy] at h
    refine aaT l r _ _ (by rw [hy];rfl) ?_
    rw [hy]
    simpa [Kw,XE] using h
theorem awo{i n j:Nat}{ts lC:List (List (Nat×Bool))}(hj:i+n=j)(h1:(fS γ ((p.drop i).take n) st).isSome=true)(ht:XE (fS γ ((p.drop i).take n) st)=ts)(ha:acc++ts=lC)
  (h:RD γ Q fP k lC (p.drop j) (Kw (fS γ ((p.drop i).take n) st))):RD γ Q fP k acc (p.drop i) st:=by
 have e:p.drop i=(p.drop i).take n++p.drop j:=by rw [←hj,←List.drop_drop,List.take_append_drop]
 rw [e]
 exact aaT _ _ _ _ h1 (by rw [ht,ha];exact h)
theorem awp{i:Nat}(h0:p.drop i= [])(ha:(fP.all fun x=>apart (acc.getD x.1 []) (acc.getD x.2 []))=true)(h:gf γ Q k .normal st):RD γ Q fP k acc (p.drop i) st:=by
 rw [h0];exact ⟨ha,h⟩
def vW(s:Nat→PV):Option (Nat×Bool)→Bool
 | none=>true
 | some (t,b)=>match (s t).Qp with | some c=>(if c=some b then true else false) | none=>false
theorem dOp{i j:Nat}{d:Option Nat}{op:gP}{g:Option (Nat×Bool)}{v:PV}{aH:eo}{t1:List (Nat×Bool)}{lC:List (List (Nat×Bool))}(Tp:Nf st d op=t1)(ha:acc++ [t1]=lC)(hj:i+1=j)(hp:(p.drop i).take 1= [⟨d,op,g⟩])(hg:vW st.s g=true)
  (h1:aD γ st.h (d.getD 0) (cK st.s) op=some (v,aH))
  (h:RD γ Q fP k lC (p.drop j) (BC st d v aH)):RD γ Q fP k acc (p.drop i) st:=by
 subst Tp ha
 have hx:iB γ ⟨d,op,g⟩ st=some ⟨d,v,aH,cE (cK st.s) st.h (d.getD 0) op⟩:=by
  cases g with
  | none=>simp only [iB,h1]
  | some q=>
   obtain ⟨t,b⟩:=q
   simp only [vW] at hg
   simp only [iB]
   split at hg
   ·rename_i c hc
    split at hg
    ·rename_i hcb;rw [hc];simp only [if_pos hcb,h1]
    ·cases hg
   ·cases hg
 have e:p.drop i=⟨d,op,g⟩::p.drop j:=by
  conv=>lhs;rw [←List.take_append_drop 1 (p.drop i),hp,List.drop_drop,hj]
  rfl
 rw [e]
 simp only [RD,hx]
 exact h
theorem akb{i j d:Nat}(c:Bool){op:gP}{t1:List (Nat×Bool)}{lC:List (List (Nat×Bool))}(Tp:Nf st (some d) op=t1)(ha:acc++ [t1]=lC)(hj:i+1=j){g:Option (Nat×Bool)}(hp:(p.drop i).take 1= [⟨some d,op,g⟩])(hg:vW st.s g=true)
  (h1:aD γ st.h d (cK st.s) op=some (.d (.bool c),[]))
  (ht:c=true→RD γ Q fP k lC (p.drop j) (fD st d true)) (hf:c=false→RD γ Q fP k lC (p.drop j) (fD st d false)):RD γ Q fP k acc (p.drop i) st:=by
 refine dOp (v:= .d (.bool c)) Tp ha hj hp hg h1 ?_
 cases c with
 | true=>exact ht rfl
 | false=>exact hf rfl
theorem Qz(s:Nat→PV)(t:Nat){v:PV}(h:s t=v):up s t v=s:=by
 funext x
 by_cases e:x=t
 ·subst e;rw [aQ,h]
 ·rw [dV _ _ _ _ e]
theorem asX{l:List PO}(t:Nat)(c:Bool)(h1:st.s t= .d (.bool c))(ht:c=true→RD γ Q fP k acc l (fD st t true))(hf:c=false→RD γ Q fP k acc l (fD st t false)):RD γ Q fP k acc l st:=by
 obtain ⟨s,h⟩:=st
 cases c with
 | true=>have:=ht rfl;rw [fD,Qz _ _ h1] at this;exact this
 | false=>have:=hf rfl;rw [fD,Qz _ _ h1] at this;exact this
theorem asY{c0:aj}(t:Nat)(c:Bool)(h1:st.s t= .d (.bool c))(ht:c=true→R γ Q c0 k (fD st t true))(hf:c=false→R γ Q c0 k (fD st t false)):R γ Q c0 k st:=by
 obtain ⟨s,h⟩:=st
 cases c with
 | true=>have:=ht rfl;rw [fD,Qz _ _ h1] at this;exact this
 | false=>have:=hf rfl;rw [fD,Qz _ _ h1] at this;exact this
theorem axK(h:RD γ Q fP k [] (p.drop 0) st):R γ Q (.eF p fP) k st:=by rw [aaQ];exact h
def RL(γ:cX)(Q:PX→St→Prop)(k:List It)(l:List PO)(st:St):Prop:=RD γ Q [] k [] l st
theorem DV: ∀(l:List PO) (acc lC:List (List (Nat×Bool))) (st:St),RD γ Q [] k acc l st→RD γ Q [] k lC l st
 | [],_,_,_,h=>⟨rfl,h.2⟩
 | o::l,acc,lC,st,h=>by
  simp only [RD] at h ⊢
  split at h
  ·exact DV l _ _ _ h
  ·exact h
theorem aAj(h:RL γ Q k (p.drop 0) st):R γ Q (.ai p) k st:=by rw [←aj_,aaQ];exact h
theorem aAk{i n j:Nat}(hj:i+n=j)(h1:(fS γ ((p.drop i).take n) st).isSome=true)(h:RL γ Q k (p.drop j) (Kw (fS γ ((p.drop i).take n) st))):RL γ Q k (p.drop i) st:=awo hj h1 rfl rfl (DV _ _ _ _ h)
theorem aAl{i:Nat}(h0:p.drop i= [])(h:gf γ Q k .normal st):RL γ Q k (p.drop i) st:=awp h0 rfl h
theorem lOp{i j:Nat}{d:Option Nat}{op:gP}{g:Option (Nat×Bool)}{v:PV}{aH:eo}(hj:i+1=j)(hp:(p.drop i).take 1= [⟨d,op,g⟩])(hg:vW st.s g=true)
  (h1:aD γ st.h (d.getD 0) (cK st.s) op=some (v,aH)) (h:RL γ Q k (p.drop j) (BC st d v aH)):RL γ Q k (p.drop i) st:=dOp rfl rfl hj hp hg h1 (DV _ _ _ _ h)
theorem axL{i j d:Nat}(c:Bool)(hj:i+1=j){g:Option (Nat×Bool)}{op:gP}(hp:(p.drop i).take 1= [⟨some d,op,g⟩])(hg:vW st.s g=true)
  (h1:aD γ st.h d (cK st.s) op=some (.d (.bool c),[]))
  (ht:c=true→RL γ Q k (p.drop j) (fD st d true)) (hf:c=false→RL γ Q k (p.drop j) (fD st d false)):RL γ Q k (p.drop i) st:=akb c rfl rfl hj hp hg h1 (fun h=>DV _ _ _ _ (ht h)) (fun h=>DV _ _ _ _ (hf h))
theorem asZ{l:List PO}(t:Nat)(c:Bool)(h1:st.s t= .d (.bool c))(ht:c=true→RL γ Q k l (fD st t true))(hf:c=false→RL γ Q k l (fD st t false)):RL γ Q k l st:=asX t c h1 ht hf
theorem aaU{fx:Bool}{m:Nat}{rs:List PR}{r:PV×List cj}(hx:fx=false)(h:bA st m rs=some r):DT fx st m rs=some r:=by subst hx;exact h
theorem aaV{fx:Bool}{m:Nat}{rs:List PR}{r:PV}{bs:List cj}(hx:fx=true)(hg:GL st.h m=true)(h:bA st m rs=some (r,bs)):DT fx st m rs=some (r,bs++ [.box []]):=by
 subst hx
 simp only [DT,h]
 rw [if_pos hg]
theorem ko{m:Nat}{fc:aO}{r:PV×List cj}(hx:Kq fc.fin=false)(h:bA (dZ fc.fin st) m fc.res=some r):bh fc m r .ret st:=aaU hx h
theorem XF{m:Nat}{fc:aO}{r:PV×List cj}(hx:Kq fc.fin=false)(h:bA (dZ fc.fin st) m fc.res=some r):bh fc m r .normal st:=aaU hx h
theorem XG{m:Nat}{fc:aO}{s:St}{r:PV}{bs:List cj}(hx:Kq fc.fin=true)(he:dZ fc.fin st=s)(hg:GL s.h m=true)(h:bA s m fc.res=some (r,bs)):bh fc m (r,bs++ [.box []]) .ret st:=by
 subst he;exact aaV hx hg h
theorem I4{m:Nat}{fc:aO}{s:St}{r:PV}{bs:List cj}(hx:Kq fc.fin=true)(he:dZ fc.fin st=s)(hg:GL s.h m=true)(h:bA s m fc.res=some (r,bs)):bh fc m (r,bs++ [.box []]) .normal st:=by
 subst he;exact aaV hx hg h

-- the same, told by structures (what is to be shown is not unfolded)
structure ZR (γ:cX) (Q:PX→St→Prop) (c:aj) (k:List It) (st:St):Prop where
 out:R γ Q c k st
structure ZK (γ:cX) (Q:PX→St→Prop) (k:List It) (e:PX) (st:St):Prop where
 out:gf γ Q k e st
structure ZL (γ:cX) (Q:PX→St→Prop) (k:List It) (l:List PO) (st:St):Prop where
 out:RL γ Q k l st
structure ZD (γ:cX) (Q:PX→St→Prop) (fP:List (Nat×Nat)) (k:List It) (acc:List (List (Nat×Bool))) (l:List PO) (st:St):Prop where
 out:RD γ Q fP k acc l st
theorem ay{a b:aj}(h:ZR γ Q a (.seq b::k) st):ZR γ Q (.seq a b) k st:=⟨aAc h.out⟩
theorem bF{id:Nat}{c:aj}(h:ZR γ Q c (.blk id::k) st):ZR γ Q (.block id c) k st:=⟨aAd h.out⟩
theorem aJ(h:ZK γ Q k .normal st):ZR γ Q .skip k st:=⟨axA h.out⟩
theorem cP{i:Nat}(h:ZK γ Q k (.exit i) st):ZR γ Q (.exit i) k st:=⟨axB h.out⟩
theorem aG(h:ZK γ Q k .ret st):ZR γ Q .ret k st:=⟨aAe h.out⟩
theorem aC{L:List Nat}{B:List (Nat×Loc)}{A:List NA}{c:aj}{J:St}(e:aA L B A st=J)(h:ZR γ Q c k J):ZR γ Q (.keep L B A c) k st:=⟨axC e h.out⟩
theorem Tq{c:Operand}{t e:aj}(hc:(cK st.s c).bool?=some true)(h:ZR γ Q t k st):ZR γ Q (.cond c t e) k st:=⟨asV hc h.out⟩
theorem Ts{c:Operand}{t e:aj}(hc:(cK st.s c).bool?=some false)(h:ZR γ Q e k st):ZR γ Q (.cond c t e) k st:=⟨asW hc h.out⟩
theorem aq{b:aj}(h:ZR γ Q b k st):ZK γ Q (.seq b::k) .normal st:=⟨aAf h.out⟩
theorem cG{b:aj}{i:Nat}(h:ZK γ Q k (.exit i) st):ZK γ Q (.seq b::k) (.exit i) st:=⟨axD h.out⟩
theorem bD{b:aj}(h:ZK γ Q k .ret st):ZK γ Q (.seq b::k) .ret st:=⟨axE h.out⟩
theorem cq{id:Nat}(h:ZK γ Q k .normal st):ZK γ Q (.blk id::k) .normal st:=⟨aAg h.out⟩
theorem cQ{id:Nat}(h:ZK γ Q k .normal st):ZK γ Q (.blk id::k) (.exit id) st:=⟨axF h.out⟩
theorem aaW{id i:Nat}(hne:Nat.beq i id=false)(h:ZK γ Q k (.exit i) st):ZK γ Q (.blk id::k) (.exit i) st:=⟨axG hne h.out⟩
theorem cU{id:Nat}(h:ZK γ Q k .ret st):ZK γ Q (.blk id::k) .ret st:=⟨axH h.out⟩
theorem au{e:PX}(h:Q e st):ZK γ Q [] e st:=⟨aAh h⟩
theorem jI{c:aj}(h:ZR γ Q c (.seq (.loop c)::k) st):ZR γ Q (.loop c) k st:=⟨I3 h.out⟩
theorem dD{σ ρ:Type}{body:σ→Option (σ⊕ρ)}{c:aj}(H:σ→St→Prop)(X:ρ→PX→St→Prop)
  (hb: ∀x st r (Q':PX→St→Prop),H x st→body x=some r→(∀e bX,bS H X r e bX→Q' e bX)→ZR γ Q' c [] st)
  {x:σ} {z:ρ} (h0:H x st) (hS:bR body x=some z) (hk: ∀e bX,e≠ .normal→X z e bX→ZK γ Q k e bX):ZR γ Q (.loop c) k st:=
 ⟨axI H X (fun x st r Q' a b c=>(hb x st r Q' a b c).out) h0 hS fun e bX a b=>(hk e bX a b).out⟩
theorem ez(h:ZD γ Q fP k [] (p.drop 0) st):ZR γ Q (.eF p fP) k st:=⟨axK h.out⟩
theorem aN(h:ZL γ Q k (p.drop 0) st):ZR γ Q (.ai p) k st:=⟨aAj h.out⟩
theorem Tt{c0:aj}(t:Nat)(c:Bool)(h1:st.s t= .d (.bool c))(ht:c=true→ZR γ Q c0 k (fD st t true))(hf:c=false→ZR γ Q c0 k (fD st t false)):ZR γ Q c0 k st:=⟨asY t c h1 (fun h=>(ht h).out) fun h=>(hf h).out⟩
theorem akc{i n j:Nat}{ts lC:List (List (Nat×Bool))}(hj:i+n=j)(h1:(fS γ ((p.drop i).take n) st).isSome=true)(ht:XE (fS γ ((p.drop i).take n) st)=ts)(ha:acc++ts=lC)
  (h:ZD γ Q fP k lC (p.drop j) (Kw (fS γ ((p.drop i).take n) st))):ZD γ Q fP k acc (p.drop i) st:=⟨awo hj h1 ht ha h.out⟩
theorem akd{i:Nat}(h0:p.drop i= [])(ha:(fP.all fun x=>apart (acc.getD x.1 []) (acc.getD x.2 []))=true)(h:ZK γ Q k .normal st):ZD γ Q fP k acc (p.drop i) st:=⟨awp h0 ha h.out⟩
theorem awq{i j:Nat}{d:Option Nat}{op:gP}{g:Option (Nat×Bool)}{v:PV}{aH:eo}{t1:List (Nat×Bool)}{lC:List (List (Nat×Bool))}(Tp:Nf st d op=t1)(ha:acc++ [t1]=lC)(hj:i+1=j)(hp:(p.drop i).take 1= [⟨d,op,g⟩])(hg:vW st.s g=true)
  (h1:aD γ st.h (d.getD 0) (cK st.s) op=some (v,aH)) (h:ZD γ Q fP k lC (p.drop j) (BC st d v aH)):ZD γ Q fP k acc (p.drop i) st:=⟨dOp Tp ha hj hp hg h1 h.out⟩
theorem aaX{i j d:Nat}(c:Bool){op:gP}{t1:List (Nat×Bool)}{lC:List (List (Nat×Bool))}(Tp:Nf st (some d) op=t1)(ha:acc++ [t1]=lC)(hj:i+1=j){g:Option (Nat×Bool)}(hp:(p.drop i).take 1= [⟨some d,op,g⟩])(hg:vW st.s g=true)
  (h1:aD γ st.h d (cK st.s) op=some (.d (.bool c),[]))
  (ht:c=true→ZD γ Q fP k lC (p.drop j) (fD st d true)) (hf:c=false→ZD γ Q fP k lC (p.drop j) (fD st d false)):ZD γ Q fP k acc (p.drop i) st:=⟨akb c Tp ha hj hp hg h1 (fun h=>(ht h).out) fun h=>(hf h).out⟩
theorem ake{i n j:Nat}(hj:i+n=j)(h1:(fS γ ((p.drop i).take n) st).isSome=true)(h:ZL γ Q k (p.drop j) (Kw (fS γ ((p.drop i).take n) st))):ZL γ Q k (p.drop i) st:=⟨aAk hj h1 h.out⟩
theorem akf{i:Nat}(h0:p.drop i= [])(h:ZK γ Q k .normal st):ZL γ Q k (p.drop i) st:=⟨aAl h0 h.out⟩
theorem aaY{i j:Nat}{d:Option Nat}{op:gP}{g:Option (Nat×Bool)}{v:PV}{aH:eo}(hj:i+1=j)(hp:(p.drop i).take 1= [⟨d,op,g⟩])(hg:vW st.s g=true)
  (h1:aD γ st.h (d.getD 0) (cK st.s) op=some (v,aH)) (h:ZL γ Q k (p.drop j) (BC st d v aH)):ZL γ Q k (p.drop i) st:=⟨lOp hj hp hg h1 h.out⟩
theorem DW{i j d:Nat}(c:Bool)(hj:i+1=j){g:Option (Nat×Bool)}{op:gP}(hp:(p.drop i).take 1= [⟨some d,op,g⟩])(hg:vW st.s g=true)
  (h1:aD γ st.h d (cK st.s) op=some (.d (.bool c),[]))
  (ht:c=true→ZL γ Q k (p.drop j) (fD st d true)) (hf:c=false→ZL γ Q k (p.drop j) (fD st d false)):ZL γ Q k (p.drop i) st:=⟨axL c hj hp hg h1 (fun h=>(ht h).out) fun h=>(hf h).out⟩
theorem Tu{l:List PO}(t:Nat)(c:Bool)(h1:st.s t= .d (.bool c))(ht:c=true→ZL γ Q k l (fD st t true))(hf:c=false→ZL γ Q k l (fD st t false)):ZL γ Q k l st:=⟨asZ t c h1 (fun h=>(ht h).out) fun h=>(hf h).out⟩
theorem k7{az:Nat→Option aO}{base:cX}{d f:Nat}{fc:aO}{args:List PV}{bs:List cj}{r:PV×List cj}(hc:az f=some fc)(hz:fc.z=false)(hl:Nat.ble args.length fc.N=true)(hd:1≤d)
  (h: ∀Q:PX→St→Prop,(∀e bX,bh fc bs.length r e bX→Q e bX)→ZR (cg az base (d-1)) Q fc.body [] (rX args bs)):cg az base d f args bs=some r:=
 asT hc hz (Nat.le_of_ble_eq_true hl) hd (h _ fun _ _ h=>h).out
theorem yC{az:Nat→Option aO}{base:cX}{d f m:Nat}{fc:aO}{cs:List PD}{ar:List PV}{bs:List cj}{r:PV×List cj}(hc:az f=some fc)(hz:fc.z=true)(hl:Nat.ble (ar.length+1) fc.N=true)(hd:1≤d)
  (h1: ∀Q:PX→St→Prop,(∀e bX,bh fc bs.length r e bX→Q e bX)→ZR (cg az base (d-1)) Q fc.body [] (rX (.iG false m cs::ar) bs))
  (h2:m=0→ ∀Q:PX→St→Prop,(∀e bX,bh fc bs.length r e bX→Q e bX)→ZR (cg az base (d-1)) Q fc.body [] (rX (.iG true 0 []::ar) bs)):cg az base d f (.d (.sl m cs)::ar) bs=some r:=
 aka hc hz (Nat.le_of_ble_eq_true hl) hd (h1 _ fun _ _ h=>h).out fun hm=>(h2 hm _ fun _ _ h=>h).out
end
end Go.Proofs.YtobkkblijfhpoaaGreatDoor.Pm
