/- The small machine: typed data, loops, and the rules by which a run is shown to be a typed function. No program is named here. -/
import Derived.Test.YtimbfadnabfabaaGreatDoorPl
namespace Go.Proofs.YtimbfadnabfabaaGreatDoor.Pm
set_option linter.unusedVariables false

structure cT (α:Type) where
 k:Nat
 enc:α→List PD
 len: ∀x,(enc x).length=k
def cT.cells{α:Type}(E:cT α):List α→List PD
 | []=> []
 | x::xs=>E.enc x++E.cells xs
def cT.row{α:Type}(E:cT α)(n:Nat)(f:Nat→α):List PV:=(E.cells ((List.range n).map f)).map .d
def cE(k:IntKind):cT Int:=⟨1,fun x=> [.int k x],fun _=>rfl⟩
def cH:cT UInt8:=⟨1,fun x=> [.int .u8 (x.toNat:Int)],fun _=>rfl⟩
def O1:cT Bool:=⟨1,fun x=> [.bool x],fun _=>rfl⟩
def dM:cT (List UInt8):=⟨1,fun x=> [.str x],fun _=>rfl⟩
def ij{α:Type}(E:cT α):cT (List α):=⟨1,fun x=> [.sl x.length (E.cells x)],fun _=>rfl⟩
section
variable {α : Type} (E : cT α)
theorem cT.dF: ∀xs:List α,(E.cells xs).length=xs.length*E.k
 | []=>by simp [cT.cells]
 | x::xs=>by simp [cT.cells,E.len,cT.dF xs,Nat.succ_mul,Nat.add_comm]
theorem cT.nW: ∀xs ys:List α,E.cells (xs++ys)=E.cells xs++E.cells ys
 | [],_=>rfl
 | x::xs,ys=>by simp [cT.cells,cT.nW xs ys]
theorem cT.kC: ∀(xs:List α) (n:Nat),(E.cells xs).drop (n*E.k)=E.cells (xs.drop n)
 | xs,0=>by simp
 | [],n+1=>by simp [cT.cells]
 | x::xs,n+1=>by
  rw [List.drop_succ_cons,←cT.kC xs n]
  simp only [cT.cells]
  rw [show (n+1)*E.k=(E.enc x).length+n*E.k by rw [E.len,Nat.succ_mul,Nat.add_comm],List.drop_append]
  simp
theorem cT.kD: ∀(xs:List α) (n:Nat),(E.cells xs).take (n*E.k)=E.cells (xs.take n)
 | xs,0=>by simp [cT.cells]
 | [],n+1=>by simp [cT.cells]
 | x::xs,n+1=>by
  rw [List.take_succ_cons]
  simp only [cT.cells]
  rw [←cT.kD xs n,show (n+1)*E.k=(E.enc x).length+n*E.k by rw [E.len,Nat.succ_mul,Nat.add_comm],List.take_append]
  simp
  exact (List.take_of_length_le (by rw [E.len];omega))
theorem cT.lX{xs:List α}{n:Nat}{y:α}(h:xs[n]?=some y):E.cells xs=E.cells (xs.take n)++(E.enc y++E.cells (xs.drop (n+1))):=by
 obtain ⟨hl,rfl⟩:=List.getElem?_eq_some_iff.1 h
 have:xs=xs.take n++(xs[n]::xs.drop (n+1)):=by rw [←List.drop_eq_getElem_cons hl,List.take_append_drop]
 conv=>lhs;rw [this]
 rw [cT.nW];rfl
theorem cT.IL{xs:List α}{n:Nat}{y z:α}(h:xs[n]?=some y):E.cells (xs.set n z)=E.cells (xs.take n)++(E.enc z++E.cells (xs.drop (n+1))):=by
 obtain ⟨hl,rfl⟩:=List.getElem?_eq_some_iff.1 h
 rw [cT.lX E (n:=n) (y:=z) (by simp [hl])]
 simp [List.take_set_of_le,List.drop_set_of_lt]
end
def idx{α:Type}(xs:List α)(j:Int):Option α:=if 0≤j then xs[j.toNat]? else none
def jG(j:Int)(n:Nat):Option Nat:=if 0≤j∧j<n then some j.toNat else none
def pW{α:Type}(xs:List α)(lo hi:Int):Option (List α):=if 0≤lo∧lo≤hi∧hi≤xs.length then some ((xs.take hi.toNat).drop lo.toNat) else none
def eN{α:Type}(b:Nat)(xs ys:List α):Option (List α):=if (xs.length+ys.length)*b≤140737488355328 then some (xs++ys) else none
def ep(xs ys:List UInt8):Option (List UInt8):=if ((xs.length+ys.length:Nat):Int)≤IntKind.i64.max then some (xs++ys) else none
def bO(b:Bool):Option Unit:=if b=true then some () else none
theorem bind_some{α β:Type}{o:Option α}{f:α→Option β}{r:β}(h:o.bind f=some r): ∃x,o=some x∧f x=some r:=by
 cases o with
 | none=>cases h
 | some x=>exact ⟨x,rfl,h⟩
theorem aq{α β:Type}{o:Option α}{f:α→Option β}{r:β}{P:Prop}(h:o.bind f=some r)(K: ∀x,o=some x→f x=some r→P):P:=by
 obtain ⟨x,h1,h2⟩:=bind_some h
 exact K x h1 h2
theorem eA{α:Type}{F:α→PX→St→Prop}{Q:PX→St→Prop}{X r:α}{e:PX}{st:St}(hS:some X=some r)(hQ: ∀e bl,F r e bl→Q e bl)(h:F X e st):Q e st:=by
 cases hS;exact hQ _ _ h
theorem CV{α:Type}{c:Bool}{a b r:α}(hc:c=true)(h:(bif c then a else b)=r):a=r:=by subst hc;exact h
theorem CW{α:Type}{c:Bool}{a b r:α}(hc:c=false)(h:(bif c then a else b)=r):b=r:=by subst hc;exact h
theorem gW{b:Bool}{u:Unit}(h:bO b=some u):b=true:=by
 unfold bO at h;split at h
 ·assumption
 ·cases h

def qW{σ ρ:Type}(body:σ→Option (σ⊕ρ)):Nat→σ→Option ρ
 | 0,_=>none
 | n+1,x=>match body x with
  | none=>none
  | some (.inl y)=>qW body n y
  | some (.inr r)=>some r
theorem xu{σ ρ:Type}{body:σ→Option (σ⊕ρ)}: ∀{n m:Nat} {x:σ} {r:ρ},n≤m→qW body n x=some r→qW body m x=some r
 | 0,_,_,_,_,h=>by cases h
 | n+1,0,_,_,hl,_=>by omega
 | n+1,m+1,x,r,hl,h=>by
  simp only [qW] at h ⊢
  split at h
  ·cases h
  ·exact xu (by omega) h
  ·exact h
open Classical in
noncomputable def b9{σ ρ:Type}(body:σ→Option (σ⊕ρ))(x:σ):Option ρ:=if h: ∃n r,qW body n x=some r then some h.choose_spec.choose else none
theorem MX{σ ρ:Type}{body:σ→Option (σ⊕ρ)}{x:σ}{n:Nat}{r:ρ}(h:qW body n x=some r):b9 body x=some r:=by
 have hx: ∃n r,qW body n x=some r:=⟨n,r,h⟩
 unfold b9
 rw [dif_pos hx]
 have h2:=hx.choose_spec.choose_spec
 have a:=xu (Nat.le_max_left n hx.choose) h
 have b:=xu (Nat.le_max_right n hx.choose) h2
 rw [a] at b
 exact b.symm
theorem MZ{σ ρ:Type}{body:σ→Option (σ⊕ρ)}{x:σ}{r:ρ}(h:b9 body x=some r): ∃n,qW body n x=some r:=by
 unfold b9 at h
 split at h
 ·rename_i hx
  refine ⟨hx.choose,?_⟩
  rw [hx.choose_spec.choose_spec];exact h
 ·cases h
theorem dJ{σ ρ:Type}{body:σ→Option (σ⊕ρ)}{x:σ}{r:ρ}(h:body x=some (.inr r)):b9 body x=some r:=MX (n:=1) (by simp [qW,h])
theorem fI{σ ρ:Type}{body:σ→Option (σ⊕ρ)}{x y:σ}{r:ρ}(h:body x=some (.inl y))(h2:b9 body y=some r):b9 body x=some r:=by
 obtain ⟨n,hn⟩:=MZ h2
 exact MX (n:=n+1) (by simp [qW,h,hn])

section
variable {γ : ek} {Q : PX → St → Prop} {k : List It} {st : St} {p : List PO} {gi : List (Nat × Nat)} {acc : List (List (Nat × Bool))}
theorem aBA{a b:aj}(h:R γ Q a (.seq b::k) st):R γ Q (.seq a b) k st:=by rw [axG];exact h
theorem aBB{id:Nat}{c:aj}(h:R γ Q c (.blk id::k) st):R γ Q (.block id c) k st:=by rw [ah7];exact h
theorem axI(h:gf γ Q k .normal st):R γ Q .skip k st:=by rw [ap8];exact h
theorem axJ{i:Nat}(h:gf γ Q k (.exit i) st):R γ Q (.exit i) k st:=by rw [ap9];exact h
theorem aBC(h:gf γ Q k .ret st):R γ Q .ret k st:=by rw [axF];exact h
theorem axK{L:List Nat}{B:List (Nat×Loc)}{A:List NA}{c:aj}{J:St}(e:au L B A st=J)(h:R γ Q c k J):R γ Q (.keep L B A c) k st:=by rw [ap_,e];exact h
theorem aqc{c:Operand}{t e:aj}(hc:(bU st.s c).bool?=some true)(h:R γ Q t k st):R γ Q (.cond c t e) k st:=by rw [Zk,hc];exact h
theorem aqd{c:Operand}{t e:aj}(hc:(bU st.s c).bool?=some false)(h:R γ Q e k st):R γ Q (.cond c t e) k st:=by rw [Zk,hc];exact h
theorem aBD{b:aj}(h:R γ Q b k st):gf γ Q (.seq b::k) .normal st:=h
theorem axL{b:aj}{i:Nat}(h:gf γ Q k (.exit i) st):gf γ Q (.seq b::k) (.exit i) st:=h
theorem axM{b:aj}(h:gf γ Q k .ret st):gf γ Q (.seq b::k) .ret st:=h
theorem aBE{id:Nat}(h:gf γ Q k .normal st):gf γ Q (.blk id::k) .normal st:=h
theorem axN{id:Nat}(h:gf γ Q k .normal st):gf γ Q (.blk id::k) (.exit id) st:=by rw [G7,if_pos rfl];exact h
theorem axO{id i:Nat}(hne:Nat.beq i id=false)(h:gf γ Q k (.exit i) st):gf γ Q (.blk id::k) (.exit i) st:=by rw [G7,if_neg (by intro e;subst e;simp at hne)];exact h
theorem axP{id:Nat}(h:gf γ Q k .ret st):gf γ Q (.blk id::k) .ret st:=h
theorem aBF{e:PX}(h:Q e st):gf γ Q [] e st:=by rw [O0];exact h
theorem G8{c:aj}(h:R γ Q c (.seq (.loop c)::k) st):R γ Q (.loop c) k st:=by
 obtain ⟨n,e,iH,h1,q⟩:=h
 cases e with
 | normal=>
  obtain ⟨n2,e2,ju,h2,q⟩:=q
  refine ⟨max n n2+1,e2,ju,?_,q⟩
  simp only [prun] at h2 ⊢
  simp only [iter,eZ (show n≤max n n2+1 by omega) _ _ _ h1]
  exact BC (fun st r=>eZ (show n2≤max n n2+1 by omega) c st r) n2 _ _ _ (by omega) h2
 | exit i=>exact ⟨n+1,_,iH,by simp only [prun,iter,eZ (Nat.le_succ n) _ _ _ h1],q⟩
 | ret=>exact ⟨n+1,_,iH,by simp only [prun,iter,eZ (Nat.le_succ n) _ _ _ h1],q⟩
def bG{σ ρ:Type}(H:σ→St→Prop)(X:ρ→PX→St→Prop):σ⊕ρ→PX→St→Prop
 | .inl y,e,st=>e= .normal∧H y st
 | .inr z,e,st=>e≠ .normal∧X z e st
theorem aqe{σ ρ:Type}{H:σ→St→Prop}{X:ρ→PX→St→Prop}{y:σ}{st:St}(h:H y st):bG H X (.inl y) .normal st:=⟨rfl,h⟩
theorem O2{σ ρ:Type}{H:σ→St→Prop}{X:ρ→PX→St→Prop}{z:ρ}{e:PX}{st:St}(hne:e≠ .normal)(h:X z e st):bG H X (.inr z) e st:=⟨hne,h⟩
theorem axQ{σ ρ:Type}{body:σ→Option (σ⊕ρ)}{c:aj}(H:σ→St→Prop)(X:ρ→PX→St→Prop)
  (hb: ∀x st r (Q':PX→St→Prop),H x st→body x=some r→(∀e bl,bG H X r e bl→Q' e bl)→R γ Q' c [] st)
  {x:σ} {z:ρ} (h0:H x st) (hS:b9 body x=some z) (hk: ∀e bl,e≠ .normal→X z e bl→gf γ Q k e bl):R γ Q (.loop c) k st:=by
 obtain ⟨n,hn⟩:=MZ hS
 clear hS
 induction n generalizing x st with
 | zero=>cases hn
 | succ n ih=>
  simp only [qW] at hn
  split at hn
  ·cases hn
  ·rename_i y hy
   have h1:=hb x st _ (fun e bl=>match e with
    | .normal=>H y bl
    | _=>False) h0 hy (fun e bl h=>by obtain ⟨rfl,h⟩:=h;exact h)
   obtain ⟨m,e,iH,h1,q⟩:=h1
   rw [O0] at q
   cases e with
   | normal=>exact G8 ⟨m,.normal,iH,h1,ih q hn⟩
   | exit i=>exact q.elim
   | ret=>exact q.elim
  ·rename_i r hr
   cases hn
   have h1:=hb x st _ (fun e bl=>match e with
    | .normal=>False
    | e=>X z e bl) h0 hr (fun e bl h=>by
     obtain ⟨hne,hX⟩:=h
     cases e with
     | normal=>exact absurd rfl hne
     | exit=>exact hX
     | ret=>exact hX)
   obtain ⟨m,e,iH,h1,q⟩:=h1
   rw [O0] at q
   cases e with
   | normal=>exact q.elim
   | exit i=>exact G8 ⟨m,.exit i,iH,h1,hk _ _ (by simp) q⟩
   | ret=>exact G8 ⟨m,.ret,iH,h1,hk _ _ (by simp) q⟩

-- statements
def O3(o:Option (List Out×St)):St:=match o with | some x=>x.2 | none=>⟨fun _=> .un,fun _=>⟨0,none⟩⟩
def tcD(o:Option (List Out×St)):List (List (Nat×Bool)):=match o with | some x=>x.1.map (·.tc) | none=> []
def aBG(d:Option Nat)(v:PV)(s:Nat→PV):Nat→PV:=match d with | some d=>up s d v | none=>s
def wE(st:St)(d:Option Nat)(v:PV)(aD:eu):St:=⟨aBG d v st.s,eJ st.h aD⟩
def iO(st:St)(d:Nat)(b:Bool):St:=⟨up st.s d (.d (.bool b)),st.h⟩
def VZ(st:St)(d:Option Nat)(op:kj):List (Nat×Bool):=bT (bU st.s) st.h (d.getD 0) op
theorem Zo: ∀(l r:List PO) (acc:List (List (Nat×Bool))) (st:St),(gb γ l st).isSome=true→RD γ Q gi k (acc++tcD (gb γ l st)) r (O3 (gb γ l st))→RD γ Q gi k acc (l++r) st
 | [],r,acc,st,_,h=>by simpa [gb,O3,tcD] using h
 | o::l,r,acc,st,h1,h=>by
  simp only [gb] at h1 h
  simp only [List.cons_append,RD]
  cases hx:iP γ o st with
  | none=>rw [hx] at h1;cases h1
  | some x=>
   rw [hx] at h1 h
   simp only at h1 h ⊢
   cases hy:gb γ l (apply x st) with
   | none=>rw [hy] at h1;cases h1
   | some y=>
    obtain ⟨a,b⟩:=y
    rw [hy] at h
    refine Zo l r _ _ (by rw [hy];rfl) ?_
    rw [hy]
    simpa [O3,tcD] using h
theorem av3{i n j:Nat}{ts kU:List (List (Nat×Bool))}(hj:i+n=j)(h1:(gb γ ((p.drop i).take n) st).isSome=true)(ht:tcD (gb γ ((p.drop i).take n) st)=ts)(ha:acc++ts=kU)
  (h:RD γ Q gi k kU (p.drop j) (O3 (gb γ ((p.drop i).take n) st))):RD γ Q gi k acc (p.drop i) st:=by
 have e:p.drop i=(p.drop i).take n++p.drop j:=by rw [←hj,←List.drop_drop,List.take_append_drop]
 rw [e]
 exact Zo _ _ _ _ h1 (by rw [ht,ha];exact h)
theorem av4{i:Nat}(h0:p.drop i= [])(ha:(gi.all fun x=>apart (acc.getD x.1 []) (acc.getD x.2 []))=true)(h:gf γ Q k .normal st):RD γ Q gi k acc (p.drop i) st:=by
 rw [h0];exact ⟨ha,h⟩
def vh(s:Nat→PV):Option (Nat×Bool)→Bool
 | none=>true
 | some (t,b)=>match (s t).OP with | some c=>(if c=some b then true else false) | none=>false
theorem dOp{i j:Nat}{d:Option Nat}{op:kj}{g:Option (Nat×Bool)}{v:PV}{aD:eu}{t1:List (Nat×Bool)}{kU:List (List (Nat×Bool))}(Sb:VZ st d op=t1)(ha:acc++ [t1]=kU)(hj:i+1=j)(hp:(p.drop i).take 1= [⟨d,op,g⟩])(hg:vh st.s g=true)
  (h1:az γ st.h (d.getD 0) (bU st.s) op=some (v,aD))
  (h:RD γ Q gi k kU (p.drop j) (wE st d v aD)):RD γ Q gi k acc (p.drop i) st:=by
 subst Sb ha
 have hx:iP γ ⟨d,op,g⟩ st=some ⟨d,v,aD,bT (bU st.s) st.h (d.getD 0) op⟩:=by
  cases g with
  | none=>simp only [iP,h1]
  | some q=>
   obtain ⟨t,b⟩:=q
   simp only [vh] at hg
   simp only [iP]
   split at hg
   ·rename_i c hc
    split at hg
    ·rename_i hcb;rw [hc];simp only [if_pos hcb,h1]
    ·cases hg
   ·cases hg
 have e:p.drop i=⟨d,op,g⟩::p.drop j:=by
  conv=>lhs;rw [←List.take_append_drop 1 (p.drop i),hp,List.drop_drop,hj]
  rfl
 rw [e]
 simp only [RD,hx]
 exact h
theorem ah_{i j d:Nat}(c:Bool){op:kj}{t1:List (Nat×Bool)}{kU:List (List (Nat×Bool))}(Sb:VZ st (some d) op=t1)(ha:acc++ [t1]=kU)(hj:i+1=j){g:Option (Nat×Bool)}(hp:(p.drop i).take 1= [⟨some d,op,g⟩])(hg:vh st.s g=true)
  (h1:az γ st.h d (bU st.s) op=some (.d (.bool c),[]))
  (ht:c=true→RD γ Q gi k kU (p.drop j) (iO st d true)) (hf:c=false→RD γ Q gi k kU (p.drop j) (iO st d false)):RD γ Q gi k acc (p.drop i) st:=by
 refine dOp (v:= .d (.bool c)) Sb ha hj hp hg h1 ?_
 cases c with
 | true=>exact ht rfl
 | false=>exact hf rfl
theorem O4(s:Nat→PV)(t:Nat){v:PV}(h:s t=v):up s t v=s:=by
 funext x
 by_cases e:x=t
 ·subst e;rw [aQ,h]
 ·rw [dK _ _ _ _ e]
theorem aqf{l:List PO}(t:Nat)(c:Bool)(h1:st.s t= .d (.bool c))(ht:c=true→RD γ Q gi k acc l (iO st t true))(hf:c=false→RD γ Q gi k acc l (iO st t false)):RD γ Q gi k acc l st:=by
 obtain ⟨s,h⟩:=st
 cases c with
 | true=>have:=ht rfl;rw [iO,O4 _ _ h1] at this;exact this
 | false=>have:=hf rfl;rw [iO,O4 _ _ h1] at this;exact this
theorem aqg{c0:aj}(t:Nat)(c:Bool)(h1:st.s t= .d (.bool c))(ht:c=true→R γ Q c0 k (iO st t true))(hf:c=false→R γ Q c0 k (iO st t false)):R γ Q c0 k st:=by
 obtain ⟨s,h⟩:=st
 cases c with
 | true=>have:=ht rfl;rw [iO,O4 _ _ h1] at this;exact this
 | false=>have:=hf rfl;rw [iO,O4 _ _ h1] at this;exact this
theorem axS(h:RD γ Q gi k [] (p.drop 0) st):R γ Q (.cU p gi) k st:=by rw [Zm];exact h
def RL(γ:ek)(Q:PX→St→Prop)(k:List It)(l:List PO)(st:St):Prop:=RD γ Q [] k [] l st
theorem CX: ∀(l:List PO) (acc kU:List (List (Nat×Bool))) (st:St),RD γ Q [] k acc l st→RD γ Q [] k kU l st
 | [],_,_,_,h=>⟨rfl,h.2⟩
 | o::l,acc,kU,st,h=>by
  simp only [RD] at h ⊢
  split at h
  ·exact CX l _ _ _ h
  ·exact h
theorem aBH(h:RL γ Q k (p.drop 0) st):R γ Q (.ai p) k st:=by rw [←ah8,Zm];exact h
theorem aBI{i n j:Nat}(hj:i+n=j)(h1:(gb γ ((p.drop i).take n) st).isSome=true)(h:RL γ Q k (p.drop j) (O3 (gb γ ((p.drop i).take n) st))):RL γ Q k (p.drop i) st:=av3 hj h1 rfl rfl (CX _ _ _ _ h)
theorem aBJ{i:Nat}(h0:p.drop i= [])(h:gf γ Q k .normal st):RL γ Q k (p.drop i) st:=av4 h0 rfl h
theorem lOp{i j:Nat}{d:Option Nat}{op:kj}{g:Option (Nat×Bool)}{v:PV}{aD:eu}(hj:i+1=j)(hp:(p.drop i).take 1= [⟨d,op,g⟩])(hg:vh st.s g=true)
  (h1:az γ st.h (d.getD 0) (bU st.s) op=some (v,aD)) (h:RL γ Q k (p.drop j) (wE st d v aD)):RL γ Q k (p.drop i) st:=dOp rfl rfl hj hp hg h1 (CX _ _ _ _ h)
theorem axT{i j d:Nat}(c:Bool)(hj:i+1=j){g:Option (Nat×Bool)}{op:kj}(hp:(p.drop i).take 1= [⟨some d,op,g⟩])(hg:vh st.s g=true)
  (h1:az γ st.h d (bU st.s) op=some (.d (.bool c),[]))
  (ht:c=true→RL γ Q k (p.drop j) (iO st d true)) (hf:c=false→RL γ Q k (p.drop j) (iO st d false)):RL γ Q k (p.drop i) st:=ah_ c rfl rfl hj hp hg h1 (fun h=>CX _ _ _ _ (ht h)) (fun h=>CX _ _ _ _ (hf h))
theorem aqh{l:List PO}(t:Nat)(c:Bool)(h1:st.s t= .d (.bool c))(ht:c=true→RL γ Q k l (iO st t true))(hf:c=false→RL γ Q k l (iO st t false)):RL γ Q k l st:=aqf t c h1 ht hf
theorem Zp{fx:Bool}{m:Nat}{rs:List PR}{r:PV×List bH}(hx:fx=false)(h:cP st m rs=some r):xk fx st m rs=some r:=by subst hx;exact h
theorem aqi{fx:Bool}{m:Nat}{rs:List PR}{r:PV}{bs:List bH}(hx:fx=true)(hg:ID st.h m=true)(h:cP st m rs=some (r,bs)):xk fx st m rs=some (r,bs++ [.box []]):=by
 subst hx
 simp only [xk,h]
 rw [if_pos hg]
theorem jv{m:Nat}{fc:aK}{r:PV×List bH}(hx:Lk fc.fin=false)(h:cP (dY fc.fin st) m fc.res=some r):aV fc m r .ret st:=Zp hx h
theorem aia{m:Nat}{fc:aK}{r:PV×List bH}(hx:Lk fc.fin=false)(h:cP (dY fc.fin st) m fc.res=some r):aV fc m r .normal st:=Zp hx h
theorem axU{m:Nat}{fc:aK}{s:St}{r:PV}{bs:List bH}(hx:Lk fc.fin=true)(he:dY fc.fin st=s)(hg:ID s.h m=true)(h:cP s m fc.res=some (r,bs)):aV fc m (r,bs++ [.box []]) .ret st:=by
 subst he;exact aqi hx hg h
-- the same, told by structures (what is to be shown is not unfolded)
structure ZR (γ:ek) (Q:PX→St→Prop) (c:aj) (k:List It) (st:St):Prop where
 out:R γ Q c k st
structure ZK (γ:ek) (Q:PX→St→Prop) (k:List It) (e:PX) (st:St):Prop where
 out:gf γ Q k e st
structure ZL (γ:ek) (Q:PX→St→Prop) (k:List It) (l:List PO) (st:St):Prop where
 out:RL γ Q k l st
structure ZD (γ:ek) (Q:PX→St→Prop) (gi:List (Nat×Nat)) (k:List It) (acc:List (List (Nat×Bool))) (l:List PO) (st:St):Prop where
 out:RD γ Q gi k acc l st
theorem aC{a b:aj}(h:ZR γ Q a (.seq b::k) st):ZR γ Q (.seq a b) k st:=⟨aBA h.out⟩
theorem bz{id:Nat}{c:aj}(h:ZR γ Q c (.blk id::k) st):ZR γ Q (.block id c) k st:=⟨aBB h.out⟩
theorem fP(h:ZK γ Q k .normal st):ZR γ Q .skip k st:=⟨axI h.out⟩
theorem dh{i:Nat}(h:ZK γ Q k (.exit i) st):ZR γ Q (.exit i) k st:=⟨axJ h.out⟩
theorem cM(h:ZK γ Q k .ret st):ZR γ Q .ret k st:=⟨aBC h.out⟩
theorem ay{L:List Nat}{B:List (Nat×Loc)}{A:List NA}{c:aj}{J:St}(e:au L B A st=J)(h:ZR γ Q c k J):ZR γ Q (.keep L B A c) k st:=⟨axK e h.out⟩
theorem Sc{c:Operand}{t e:aj}(hc:(bU st.s c).bool?=some true)(h:ZR γ Q t k st):ZR γ Q (.cond c t e) k st:=⟨aqc hc h.out⟩
theorem Sd{c:Operand}{t e:aj}(hc:(bU st.s c).bool?=some false)(h:ZR γ Q e k st):ZR γ Q (.cond c t e) k st:=⟨aqd hc h.out⟩
theorem cj{b:aj}(h:ZR γ Q b k st):ZK γ Q (.seq b::k) .normal st:=⟨aBD h.out⟩
theorem cY{b:aj}{i:Nat}(h:ZK γ Q k (.exit i) st):ZK γ Q (.seq b::k) (.exit i) st:=⟨axL h.out⟩
theorem bP{b:aj}(h:ZK γ Q k .ret st):ZK γ Q (.seq b::k) .ret st:=⟨axM h.out⟩
theorem qX{id:Nat}(h:ZK γ Q k .normal st):ZK γ Q (.blk id::k) .normal st:=⟨aBE h.out⟩
theorem j9{id:Nat}(h:ZK γ Q k .normal st):ZK γ Q (.blk id::k) (.exit id) st:=⟨axN h.out⟩
theorem Zq{id i:Nat}(hne:Nat.beq i id=false)(h:ZK γ Q k (.exit i) st):ZK γ Q (.blk id::k) (.exit i) st:=⟨axO hne h.out⟩
theorem cr{id:Nat}(h:ZK γ Q k .ret st):ZK γ Q (.blk id::k) .ret st:=⟨axP h.out⟩
theorem bk{e:PX}(h:Q e st):ZK γ Q [] e st:=⟨aBF h⟩
theorem aib{c:aj}(h:ZR γ Q c (.seq (.loop c)::k) st):ZR γ Q (.loop c) k st:=⟨G8 h.out⟩
theorem dN{σ ρ:Type}{body:σ→Option (σ⊕ρ)}{c:aj}(H:σ→St→Prop)(X:ρ→PX→St→Prop)
  (hb: ∀x st r (Q':PX→St→Prop),H x st→body x=some r→(∀e bl,bG H X r e bl→Q' e bl)→ZR γ Q' c [] st)
  {x:σ} {z:ρ} (h0:H x st) (hS:b9 body x=some z) (hk: ∀e bl,e≠ .normal→X z e bl→ZK γ Q k e bl):ZR γ Q (.loop c) k st:=
 ⟨axQ H X (fun x st r Q' a b c=>(hb x st r Q' a b c).out) h0 hS fun e bl a b=>(hk e bl a b).out⟩
theorem cC(h:ZD γ Q gi k [] (p.drop 0) st):ZR γ Q (.cU p gi) k st:=⟨axS h.out⟩
theorem a_(h:ZL γ Q k (p.drop 0) st):ZR γ Q (.ai p) k st:=⟨aBH h.out⟩
theorem aic{c0:aj}(t:Nat)(c:Bool)(h1:st.s t= .d (.bool c))(ht:c=true→ZR γ Q c0 k (iO st t true))(hf:c=false→ZR γ Q c0 k (iO st t false)):ZR γ Q c0 k st:=⟨aqg t c h1 (fun h=>(ht h).out) fun h=>(hf h).out⟩
theorem aid{i n j:Nat}{ts kU:List (List (Nat×Bool))}(hj:i+n=j)(h1:(gb γ ((p.drop i).take n) st).isSome=true)(ht:tcD (gb γ ((p.drop i).take n) st)=ts)(ha:acc++ts=kU)
  (h:ZD γ Q gi k kU (p.drop j) (O3 (gb γ ((p.drop i).take n) st))):ZD γ Q gi k acc (p.drop i) st:=⟨av3 hj h1 ht ha h.out⟩
theorem aie{i:Nat}(h0:p.drop i= [])(ha:(gi.all fun x=>apart (acc.getD x.1 []) (acc.getD x.2 []))=true)(h:ZK γ Q k .normal st):ZD γ Q gi k acc (p.drop i) st:=⟨av4 h0 ha h.out⟩
theorem aBK{i j:Nat}{d:Option Nat}{op:kj}{g:Option (Nat×Bool)}{v:PV}{aD:eu}{t1:List (Nat×Bool)}{kU:List (List (Nat×Bool))}(Sb:VZ st d op=t1)(ha:acc++ [t1]=kU)(hj:i+1=j)(hp:(p.drop i).take 1= [⟨d,op,g⟩])(hg:vh st.s g=true)
  (h1:az γ st.h (d.getD 0) (bU st.s) op=some (v,aD)) (h:ZD γ Q gi k kU (p.drop j) (wE st d v aD)):ZD γ Q gi k acc (p.drop i) st:=⟨dOp Sb ha hj hp hg h1 h.out⟩
theorem aqj{i j d:Nat}(c:Bool){op:kj}{t1:List (Nat×Bool)}{kU:List (List (Nat×Bool))}(Sb:VZ st (some d) op=t1)(ha:acc++ [t1]=kU)(hj:i+1=j){g:Option (Nat×Bool)}(hp:(p.drop i).take 1= [⟨some d,op,g⟩])(hg:vh st.s g=true)
  (h1:az γ st.h d (bU st.s) op=some (.d (.bool c),[]))
  (ht:c=true→ZD γ Q gi k kU (p.drop j) (iO st d true)) (hf:c=false→ZD γ Q gi k kU (p.drop j) (iO st d false)):ZD γ Q gi k acc (p.drop i) st:=⟨ah_ c Sb ha hj hp hg h1 (fun h=>(ht h).out) fun h=>(hf h).out⟩
theorem aif{i n j:Nat}(hj:i+n=j)(h1:(gb γ ((p.drop i).take n) st).isSome=true)(h:ZL γ Q k (p.drop j) (O3 (gb γ ((p.drop i).take n) st))):ZL γ Q k (p.drop i) st:=⟨aBI hj h1 h.out⟩
theorem aih{i:Nat}(h0:p.drop i= [])(h:ZK γ Q k .normal st):ZL γ Q k (p.drop i) st:=⟨aBJ h0 h.out⟩
theorem Sg{i j:Nat}{d:Option Nat}{op:kj}{g:Option (Nat×Bool)}{v:PV}{aD:eu}(hj:i+1=j)(hp:(p.drop i).take 1= [⟨d,op,g⟩])(hg:vh st.s g=true)
  (h1:az γ st.h (d.getD 0) (bU st.s) op=some (v,aD)) (h:ZL γ Q k (p.drop j) (wE st d v aD)):ZL γ Q k (p.drop i) st:=⟨lOp hj hp hg h1 h.out⟩
theorem aqk{i j d:Nat}(c:Bool)(hj:i+1=j){g:Option (Nat×Bool)}{op:kj}(hp:(p.drop i).take 1= [⟨some d,op,g⟩])(hg:vh st.s g=true)
  (h1:az γ st.h d (bU st.s) op=some (.d (.bool c),[]))
  (ht:c=true→ZL γ Q k (p.drop j) (iO st d true)) (hf:c=false→ZL γ Q k (p.drop j) (iO st d false)):ZL γ Q k (p.drop i) st:=⟨axT c hj hp hg h1 (fun h=>(ht h).out) fun h=>(hf h).out⟩
theorem aii{l:List PO}(t:Nat)(c:Bool)(h1:st.s t= .d (.bool c))(ht:c=true→ZL γ Q k l (iO st t true))(hf:c=false→ZL γ Q k l (iO st t false)):ZL γ Q k l st:=⟨aqh t c h1 (fun h=>(ht h).out) fun h=>(hf h).out⟩
theorem aql{av:Nat→Option aK}{base:ek}{d f:Nat}{fc:aK}{args:List PV}{bs:List bH}{r:PV×List bH}(hc:av f=some fc)(hz:fc.z=false)(hl:Nat.ble args.length fc.N=true)(hd:1≤d)
  (h: ∀Q:PX→St→Prop,(∀e bl,aV fc bs.length r e bl→Q e bl)→ZR (bW av base (d-1)) Q fc.body [] (qV args bs)):bW av base d f args bs=some r:=
 aqa hc hz (Nat.le_of_ble_eq_true hl) hd (h _ fun _ _ h=>h).out
theorem IM{av:Nat→Option aK}{base:ek}{d f m:Nat}{fc:aK}{cs:List PD}{ar:List PV}{bs:List bH}{r:PV×List bH}(hc:av f=some fc)(hz:fc.z=true)(hl:Nat.ble (ar.length+1) fc.N=true)(hd:1≤d)
  (h1: ∀Q:PX→St→Prop,(∀e bl,aV fc bs.length r e bl→Q e bl)→ZR (bW av base (d-1)) Q fc.body [] (qV (.jo false m cs::ar) bs))
  (h2:m=0→ ∀Q:PX→St→Prop,(∀e bl,aV fc bs.length r e bl→Q e bl)→ZR (bW av base (d-1)) Q fc.body [] (qV (.jo true 0 []::ar) bs)):bW av base d f (.d (.sl m cs)::ar) bs=some r:=
 ah9 hc hz (Nat.le_of_ble_eq_true hl) hd (h1 _ fun _ _ h=>h).out fun hm=>(h2 hm _ fun _ _ h=>h).out
end
end Go.Proofs.YtimbfadnabfabaaGreatDoor.Pm
